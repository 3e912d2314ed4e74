import Derived.Test.YthhcpbfgoofppaaGreatDoorGLit
set_option linter.unusedVariables false
set_option linter.unusedSimpArgs false
open Wf
set_option maxRecDepth 100000
set_option maxHeartbeats 8000000
open Go.Lib (hid)
open Go.Proofs.Tryz hiding parts
namespace Go.Proofs.YthhcpbfgoofppaaGreatDoor
open Go.RowKit Wf
theorem B39{c:X4}{b:Nat}(a:P5 c)(h:has c b=false):word c (b / 64)+2 ^ (b % 64)=word c (b / 64) ||| 2 ^ (b % 64)/\word c (b / 64)+2 ^ (b % 64)<18446744073709551616:=by
 have d:=B9O (n:=word c (b / 64)) (k:=b % 64) h;exact⟨d,by rw[d];exact A2f (A1W a _) (A5D b)⟩
theorem A1S(j g f d b:Nat)(w:W_)(r:P5 (j,g,f,d))(P:b<256):
 Calls prog 132 #[.agg #[.int .u64 j,.int .u64 g,.int .u64 f,.int .u64 d],.int .i64 b] w (M5 (o2 (j,g,f,d) b) w):=by
 have q:=hid (λ(W:W_)=>A1s j g f d b W r P);unfold A7A at q;cases hh:has (j,g,f,d) b with
 | true =>
   have N:=B4B r P hh;rw[hh] at q;have HW:=hid N;have ae:=hid r;clear N r hh;go_enter func132,ntmps132;go_wp2_with fail;refine(q.out _).mono ?_;rintro e L⟨rfl,l⟩;have t:J0 ((w.alloc (.cells #[.int .u64 j,.int .u64 g,.int .u64 f,.int .u64 d] 112)).alloc (.cells #[.int .u64 0,.int .u64 0,.int .u64 0,.int .u64 0] 112)) w.heap.size 112 #[.int .u64 j,.int .u64 g,.int .u64 f,.int .u64 d]:=(J0.new w _ _).alloc _
   have s:J0 ((w.alloc (.cells #[.int .u64 j,.int .u64 g,.int .u64 f,.int .u64 d] 112)).alloc (.cells #[.int .u64 0,.int .u64 0,.int .u64 0,.int .u64 0] 112)) (w.heap.size+1) 112 #[.int .u64 0,.int .u64 0,.int .u64 0,.int .u64 0]:=by
    have h:=J0.new (w.alloc (.cells #[.int .u64 j,.int .u64 g,.int .u64 f,.int .u64 d] 112)) 112 #[.int .u64 0,.int .u64 0,.int .u64 0,.int .u64 0];rw[World.size_alloc] at h;exact h
   have o:Below w.heap.size w ((w.alloc (.cells #[.int .u64 j,.int .u64 g,.int .u64 f,.int .u64 d] 112)).alloc (.cells #[.int .u64 0,.int .u64 0,.int .u64 0,.int .u64 0] 112)):=ba_.alloc (by simp) _;have E:=hid (t.kept l);have m:=hid (s.kept l);have G:=hid (o.trans (l.mono o.size));obtain⟨⟨Z,Y,X,V⟩,_⟩:=V1 E.out;obtain⟨_,T,S,R,Q⟩:=V1 m.out;clear t s o l q;go_wp2;refine bodyPost_ret (v:=C6 (o2 (j,g,f,d) b)) ?_ rfl (M5.of ?_)
   .rw[HW.out]
    have h4:=(V1 (N3 m.out (.int .u64 j) (.int .u64 g) (.int .u64 f) (.int .u64 d))).1;obtain⟨C,B,A,z⟩:=h4;simp[results,results132,go_sem,C6,C,B,A,z]
   .exact(((G.out.setCell (by simp) _).setCell (by simp) _).setCell (by simp) _).setCell (by simp) _
 | false =>
   rw[hh] at q;obtain⟨D,hlt⟩:=B39 r hh;have c:=hid D;have O:b % 64<64:=by omega
   have J:b / 64=0\/b / 64=1\/b / 64=2\/b / 64=3:=by omega
   clear r hh D;go_enter func132,ntmps132;go_wp2_with fail;refine(q.out _).mono ?_;rintro e L⟨rfl,l⟩;have t:J0 ((w.alloc (.cells #[.int .u64 j,.int .u64 g,.int .u64 f,.int .u64 d] 112)).alloc (.cells #[.int .u64 0,.int .u64 0,.int .u64 0,.int .u64 0] 112)) w.heap.size 112 #[.int .u64 j,.int .u64 g,.int .u64 f,.int .u64 d]:=(J0.new w _ _).alloc _
   have s:J0 ((w.alloc (.cells #[.int .u64 j,.int .u64 g,.int .u64 f,.int .u64 d] 112)).alloc (.cells #[.int .u64 0,.int .u64 0,.int .u64 0,.int .u64 0] 112)) (w.heap.size+1) 112 #[.int .u64 0,.int .u64 0,.int .u64 0,.int .u64 0]:=by
    have h:=J0.new (w.alloc (.cells #[.int .u64 j,.int .u64 g,.int .u64 f,.int .u64 d] 112)) 112 #[.int .u64 0,.int .u64 0,.int .u64 0,.int .u64 0];rw[World.size_alloc] at h;exact h
   have o:Below w.heap.size w ((w.alloc (.cells #[.int .u64 j,.int .u64 g,.int .u64 f,.int .u64 d] 112)).alloc (.cells #[.int .u64 0,.int .u64 0,.int .u64 0,.int .u64 0] 112)):=ba_.alloc (by simp) _;have E:=hid (t.kept l);have m:=hid (s.kept l);have G:=hid (o.trans (l.mono o.size));obtain⟨⟨Z,Y,X,V⟩,_⟩:=V1 E.out;obtain⟨_,T,S,R,Q⟩:=V1 m.out;clear t s o l q;go_wp2_with fail
   go_loopw [6,7] (λv6 v7 wr=>∃k x:Nat,k<=b % 64/\v7=.int .i64 k/\v6=.int .u64 x/\x<18446744073709551616/\Hid (x=2 ^ k)/\wr=L) (λ_ i _=>b % 64 - (intOf i).toNat)
   case atStart=>exact⟨0,1,by omega,rfl,rfl,by omega,hid (by simp),rfl⟩
   case round =>
    obtain⟨k,x,hk,rfl,rfl,hx,y,rfl⟩:=hrel;by_cases hltk:k<b % 64
    .have d2:=dt_ ((k:Int)<b % 64)
     have i2:(k:Int)<b % 64:=by omega
     have H:x*2<18446744073709551616:=by
      have:2 ^ (k+1)<=2 ^ 63:=Nat.pow_le_pow_right (by omega) (by omega);rw[y.out,←Nat.pow_succ];omega
     go_wp2;go_roundw
     case rel=>exact⟨k+1,x*2,by omega,by go_num,by go_num,H,hid (by rw[y.out,Nat.pow_succ]),trivial⟩
     case measure=>simp[intOf];omega
    .obtain rfl:k=b % 64:=by omega
     have d2:decide (((b % 64:Nat):Int)<(b:Int) % 64)=false:=by simp
     have M:x<18446744073709551616:=hx;rcases J with hq|hq|hq|hq
     .have n:(b:Int) / 64=((b / 64:Nat):Int):=by omega
      rw[hq] at n;rw[hq] at hlt c;simp only[word] at hlt c;rw[←y.out] at hlt c;simp at hlt c;have a:C6 (o2 (j,g,f,d) b)=C6 (o2 (j,g,f,d) b):=rfl
      conv at a=>rhs;unfold C6 o2;simp only[hq]
      simp at a;rw[←y.out,←c.out] at a;have F:=hid a;clear a;go_wp2;refine bodyPost_ret (v:=C6 (o2 (j,g,f,d) b)) ?_ rfl (M5.of ?_)
      .rw[F.out]
       obtain⟨C,B,A,z⟩:=(V1 (N3 (m.out.far (p:=⟨w.heap.size,0,none⟩) (by simp) (.int .u64 ((j:Int)+x))) (.int .u64 ((j:Int)+x)) (.int .u64 ((g:Int))) (.int .u64 ((f:Int))) (.int .u64 ((d:Int))))).1;simp[results,results132,go_sem,C6,C,B,A,z]
      .exact((((G.out.setCell (by simp) _).setCell (by simp) _).setCell (by simp) _).setCell (by simp) _).setCell (by simp) _
     .have n:(b:Int) / 64=((b / 64:Nat):Int):=by omega
      rw[hq] at n;rw[hq] at hlt c;simp only[word] at hlt c;rw[←y.out] at hlt c;simp at hlt c;have a:C6 (o2 (j,g,f,d) b)=C6 (o2 (j,g,f,d) b):=rfl
      conv at a=>rhs;unfold C6 o2;simp only[hq]
      simp at a;rw[←y.out,←c.out] at a;have F:=hid a;clear a;go_wp2;refine bodyPost_ret (v:=C6 (o2 (j,g,f,d) b)) ?_ rfl (M5.of ?_)
      .rw[F.out]
       obtain⟨C,B,A,z⟩:=(V1 (N3 (m.out.far (p:=⟨w.heap.size,1,none⟩) (by simp) (.int .u64 ((g:Int)+x))) (.int .u64 ((j:Int))) (.int .u64 ((g:Int)+x)) (.int .u64 ((f:Int))) (.int .u64 ((d:Int))))).1;simp[results,results132,go_sem,C6,C,B,A,z]
      .exact((((G.out.setCell (by simp) _).setCell (by simp) _).setCell (by simp) _).setCell (by simp) _).setCell (by simp) _
     .have n:(b:Int) / 64=((b / 64:Nat):Int):=by omega
      rw[hq] at n;rw[hq] at hlt c;simp only[word] at hlt c;rw[←y.out] at hlt c;simp at hlt c;have a:C6 (o2 (j,g,f,d) b)=C6 (o2 (j,g,f,d) b):=rfl
      conv at a=>rhs;unfold C6 o2;simp only[hq]
      simp at a;rw[←y.out,←c.out] at a;have F:=hid a;clear a;go_wp2;refine bodyPost_ret (v:=C6 (o2 (j,g,f,d) b)) ?_ rfl (M5.of ?_)
      .rw[F.out]
       obtain⟨C,B,A,z⟩:=(V1 (N3 (m.out.far (p:=⟨w.heap.size,2,none⟩) (by simp) (.int .u64 ((f:Int)+x))) (.int .u64 ((j:Int))) (.int .u64 ((g:Int))) (.int .u64 ((f:Int)+x)) (.int .u64 ((d:Int))))).1;simp[results,results132,go_sem,C6,C,B,A,z]
      .exact((((G.out.setCell (by simp) _).setCell (by simp) _).setCell (by simp) _).setCell (by simp) _).setCell (by simp) _
     .have n:(b:Int) / 64=((b / 64:Nat):Int):=by omega
      rw[hq] at n;rw[hq] at hlt c;simp only[word] at hlt c;rw[←y.out] at hlt c;simp at hlt c;have a:C6 (o2 (j,g,f,d) b)=C6 (o2 (j,g,f,d) b):=rfl
      conv at a=>rhs;unfold C6 o2;simp only[hq]
      simp at a;rw[←y.out,←c.out] at a;have F:=hid a;clear a;go_wp2;refine bodyPost_ret (v:=C6 (o2 (j,g,f,d) b)) ?_ rfl (M5.of ?_)
      .rw[F.out]
       obtain⟨C,B,A,z⟩:=(V1 (N3 (m.out.far (p:=⟨w.heap.size,3,none⟩) (by simp) (.int .u64 ((d:Int)+x))) (.int .u64 ((j:Int))) (.int .u64 ((g:Int))) (.int .u64 ((f:Int))) (.int .u64 ((d:Int)+x)))).1;simp[results,results132,go_sem,C6,C,B,A,z]
      .exact((((G.out.setCell (by simp) _).setCell (by simp) _).setCell (by simp) _).setCell (by simp) _).setCell (by simp) _
def B3(w:W_)(c d:X4)(w':W_):Prop :=
 J0 w' w.heap.size 112 #[.int .u64 (c.1:Int),.int .u64 (c.2.1:Int),.int .u64 (c.2.2.1:Int),.int .u64 (c.2.2.2:Int)]/\J0 w' (w.heap.size+1) 112 #[.int .u64 0,.int .u64 0,.int .u64 0,.int .u64 0] /\
 J0 w' (w.heap.size+1+1) 112 #[.int .u64 (d.1:Int),.int .u64 (d.2.1:Int),.int .u64 (d.2.2.1:Int),.int .u64 (d.2.2.2:Int)]/\Below w.heap.size w w'
theorem B3.kept{w b f:W_}{c d:X4}(h:B3 w c d b)(a:Below b.heap.size b f):B3 w c d f :=
 ⟨h.1.kept a,h.2.1.kept a,h.2.2.1.kept a,h.2.2.2.trans (a.mono h.2.2.2.size)⟩
theorem B3.put{w a:W_}{c d e:X4}(h:B3 w c d a):B3 w c e ((((a.setCell ⟨w.heap.size+1+1,0,none⟩ (.int .u64 (e.1:Int))).setCell ⟨w.heap.size+1+1,1,none⟩ (.int .u64 (e.2.1:Int))).setCell ⟨w.heap.size+1+1,2,none⟩ (.int .u64 (e.2.2.1:Int))).setCell ⟨w.heap.size+1+1,3,none⟩ (.int .u64 (e.2.2.2:Int))) :=
 ⟨(((h.1.far (by simp;omega) _).far (by simp;omega) _).far (by simp;omega) _).far (by simp;omega) _,(((h.2.1.far (by simp) _).far (by simp) _).far (by simp) _).far (by simp) _,N3 h.2.2.1 _ _ _ _,
   (((h.2.2.2.setCell (by simp;omega) _).setCell (by simp;omega) _).setCell (by simp;omega) _).setCell (by simp;omega) _⟩
theorem A2N(f d c a:Nat)(w:W_)(s:P5 (f,d,c,a)):
 Calls prog 92 #[.agg #[.int .u64 f,.int .u64 d,.int .u64 c,.int .u64 a]] w (M5 (p8 (f,d,c,a)) w):=by
 have l:=B6t s;have D:=hid l;have E:=hid (λ(b:Nat)(hb:b<256) (W:W_)=>A1s f d c a b W s hb);unfold A7A at E
 have t:B3 w (f,d,c,a) zc (((w.alloc (.cells #[.int .u64 f,.int .u64 d,.int .u64 c,.int .u64 a] 112)).alloc (.cells #[.int .u64 0,.int .u64 0,.int .u64 0,.int .u64 0] 112)).alloc (.cells #[.int .u64 0,.int .u64 0,.int .u64 0,.int .u64 0] 112)):=by
  have H:=J0.new (w.alloc (.cells #[.int .u64 f,.int .u64 d,.int .u64 c,.int .u64 a] 112)) 112 #[.int .u64 0,.int .u64 0,.int .u64 0,.int .u64 0];have G:=J0.new ((w.alloc (.cells #[.int .u64 f,.int .u64 d,.int .u64 c,.int .u64 a] 112)).alloc (.cells #[.int .u64 0,.int .u64 0,.int .u64 0,.int .u64 0] 112)) 112 #[.int .u64 0,.int .u64 0,.int .u64 0,.int .u64 0];rw[World.size_alloc] at H;rw[World.size_alloc,World.size_alloc] at G;exact⟨((J0.new w _ _).alloc _).alloc _,H.alloc _,G,(ba_.alloc (by simp) _).alloc (by simp;omega) _⟩
 have C:=hid t;clear s l t;go_enter func92,ntmps92;go_wp2
 go_loopw [4] (λv4 wr=>∃(k r q p o:Nat),k<=256/\v4=.int .i64 k/\Hid ((r,q,p,o)=A1B (λx=>!has (f,d,c,a) x) k)/\Hid (B3 w (f,d,c,a) (r,q,p,o) wr)) (λi _=>256 - (intOf i).toNat)
 case atStart=>exact⟨0,0,0,0,0,by omega,rfl,hid rfl,C⟩
 case round =>
  clear C;obtain⟨k,r,q,p,o,hk,rfl,A,j⟩:=hrel;obtain⟨⟨Y,X,V,T⟩,_⟩:=V1 j.out.1;obtain⟨⟨z0,z1,z2,z3⟩,t0,t1,t2,t3⟩:=V1 j.out.2.1;obtain⟨⟨O,N,M,L⟩,r0,r1,r2,r3⟩:=V1 j.out.2.2.1;dsimp only at Y X V T O N M L;by_cases hlt:k<256
  .have ae:(k:Int)<256:=by omega
   have J:=hid (E.out k hlt);cases hh:has (f,d,c,a) k with
   | true =>
     have y:A1B (λx=>!has (f,d,c,a) x) (k+1)=A1B (λx=>!has (f,d,c,a) x) k:=by simp[A1B,hh]
     have P:=hid y;rw[hh] at J;clear hh y;go_wp2_with fail;refine(J.out _).mono ?_;rintro e Z⟨rfl,g⟩;have h:=hid (j.out.kept g);clear g j;go_wp2_with fail;go_roundw
     case rel=>exact⟨k+1,r,q,p,o,by omega,by go_num,hid (by rw[P.out];exact A.out),h⟩
     case measure=>simp[intOf];omega
   | false =>
     have y:A1B (λx=>!has (f,d,c,a) x) (k+1)=o2 (A1B (λx=>!has (f,d,c,a) x) k) k:=by simp[A1B,hh]
     have m:P5 (r,q,p,o):=by rw[A.out];exact A7Q _ _
     have B:=hid (λW=>A1S r q p o k W m hlt);unfold M5 at B;have P:=hid y;rw[hh] at J;clear hh y m;go_wp2_with fail;refine(J.out _).mono ?_;rintro e Z⟨rfl,g⟩;have h:=hid (j.out.kept g);obtain⟨⟨O,N,M,L⟩,_⟩:=V1 h.out.2.2.1;dsimp only at O N M L;clear g j;go_wp2_with fail;refine(B.out _).mono ?_;rintro e w2⟨e0,e1,e2,e3,rfl,S,z⟩;have F:=hid (h.out.kept z);have Q:=hid S;obtain⟨_,r0,r1,r2,r3⟩:=V1 F.out.2.2.1;clear z h S;go_wp2_with fail;go_roundw
     case rel=>exact⟨k+1,e0,e1,e2,e3,by omega,by go_num,hid (by rw[P.out,Q.out,A.out]),hid F.out.put⟩
     case measure=>simp[intOf];omega
  .obtain rfl:k=256:=by omega
   have n:(r,q,p,o)=p8 (f,d,c,a):=by rw[A.out,D.out]
   have HF:=hid n;have HB:=hid j.out.2.2.2;have R:=hid j.out.2.1;clear n A j;go_wp2;refine bodyPost_ret (v:=C6 (p8 (f,d,c,a))) ?_ rfl (M5.of ?_)
   .rw[←HF.out]
    obtain⟨h0,H,G,h3⟩:=(V1 (N3 R.out (.int .u64 r) (.int .u64 q) (.int .u64 p) (.int .u64 o))).1;simp[results,results92,go_sem,C6,h0,H,G,h3]
   .exact(((HB.out.setCell (by simp) _).setCell (by simp) _).setCell (by simp) _).setCell (by simp) _
theorem A9d(s:B_)(w:W_)(hs:s.size<=9223372036854775807):
 Calls prog 167 #[.string s] w (M5 (ofL s.data.toList zc) w):=by
 go_enter func167,ntmps167;go_wp2
 go_loopw [4] (λv7 wr=>∃(k:Nat)(m l j g:Nat),k<=s.size/\v7=.int .i64 k/\P5 (m,l,j,g)/\Hid ((m,l,j,g)=ofL (s.data.toList.take k) zc) /\
  J0 wr (w.heap.size+1) 112 #[.int .u64 m,.int .u64 l,.int .u64 j,.int .u64 g]/\(∃d,J0 wr w.heap.size 112 #[.int .u64 0,.int .u64 0,.int .u64 0,.int .u64 d])/\Below w.heap.size w wr) (λi _=>s.size - (intOf i).toNat)
 case atStart=>exact⟨0,0,0,0,0,by omega,rfl,N6,hid rfl,by have h:=J0.new (w.alloc (.cells #[.int .u64 0,.int .u64 0,.int .u64 0,.int .u64 0] 112)) 112 #[.int .u64 0,.int .u64 0,.int .u64 0,.int .u64 0];simpa using h,⟨0,(J0.new _ _ _).alloc _⟩,ba_.alloc (by simp) _⟩
 case round =>
  obtain⟨k,m,l,j,g,hk,rfl,n,B,b,⟨d,a⟩,z⟩:=hrel;by_cases hlt:k<s.size
  .have X:=b.lt
   have C:(s[k].toNat:Int)<256:=by have:=s[k].toNat_lt;omega
   have hbyte':s[k].toNat<256:=s[k].toNat_lt;obtain⟨⟨Q,P,O,N⟩,M,L,J,H⟩:=V1 b;have f:o2 (m,l,j,g) s[k].toNat=ofL (s.data.toList.take (k+1)) zc:=by rw[A5j s k hlt,A8h,B.out]
   have HN:=hid f;have t:=hid (A8 n s[k].toNat)
   have D:Hid (∀W,Calls prog 132 #[.agg #[.int .u64 m,.int .u64 l,.int .u64 j,.int .u64 g],.int .i64 (IntKind.i64.wrap (s[k].toNat:Int))] W (M5 (o2 (m,l,j,g) s[k].toNat) W)):=hid (λW=>by
    rw[show IntKind.i64.wrap (s[k].toNat:Int)=(s[k].toNat:Int) from IntWalk.i64_in _ (by omega)];exact A1S m l j g s[k].toNat W n hbyte')
   have G:=hid b;have q:=hid a;have E:=hid z;have r:=z.size;clear f n b a z B;have Z:(0:Int)<=k:=by omega
   have Y:(k:Int)<s.size:=by omega
   go_wp2_with fail
   go_region_with (first
    | (go_at_call 132;refine(D.out _).mono ?_;rintro e V⟨d0,d1,d2,d3,rfl,S,y⟩;have T:=hid S;have o:Below wr.heap.size wr V:=((Below.refl wr.heap.size wr).drew).trans y;have c:=G.out.kept o;obtain⟨⟨Q,P,O,N⟩,M,L,J,H⟩:=V1 c;have F:=hid c;have R:=o.size;have A:=hid o;clear S y o c))
   all_goals (
    go_wp2;go_roundw
    case rel =>
     have hok':=t.out;rw[←T.out] at hok';refine⟨k+1,d0,d1,d2,d3,by omega,by go_num,hok',hid (by rw[T.out,HN.out]),N3 F.out _ _ _ _,?_,?_⟩
     .refine⟨d,((((q.out.kept A.out).far ?_ _).far ?_ _).far ?_ _).far ?_ _⟩ <;> simp
     .exact((((E.out.trans (A.out.mono r)).setCell (by simp) _).setCell (by simp) _).setCell (by simp) _).setCell (by simp) _
    case measure=>simp[intOf];omega)
  .obtain rfl:k=s.size:=by omega
   obtain⟨⟨Q,P,O,N⟩,M,L,J,H⟩:=V1 b;obtain⟨⟨z0,z1,z2,z3⟩,t0,t1,t2,t3⟩:=V1 a;have p:(m,l,j,g)=ofL s.data.toList zc:=by rw[B.out,List.take_of_length_le (by simp)]
   have HF:=hid p;have G:=hid z;have q:=hid a;clear p B z b a n;go_wp2;refine bodyPost_ret (v:=C6 (ofL s.data.toList zc)) ?_ rfl (M5.of ?_)
   .rw[←HF.out]
    have h4:=(V1 (N3 q.out (.int .u64 m) (.int .u64 l) (.int .u64 j) (.int .u64 g))).1;obtain⟨h0,h1,h2,h3⟩:=h4;simp[results,results167,go_sem,C6,h0,h1,h2,h3]
   .exact(((G.out.setCell (lr_ _) _).setCell (lr_ _) _).setCell (lr_ _) _).setCell (lr_ _) _
def spB:B_:=⟨#[92,46,91,93,40,41,124,42,43,63,94,36,45]⟩
theorem B8e(b:Nat)(a:b<256):UInt8.ofNat b∈X0↔∃j,∃h:j<13,(spB[j]'h).toNat=b:=by
 have key:∀b:Fin 256,(UInt8.ofNat b.val∈X0)↔∃j:Fin 13,(spB[j.val]'j.isLt).toNat=b.val:=by decide +kernel
 rw[key ⟨b,a⟩];exact⟨λ⟨j,h⟩=>⟨j.val,j.isLt,h⟩,λ⟨j,hj,h⟩=>⟨⟨j,hj⟩,h⟩⟩
theorem B5(b:Nat)(q:b<256)(w:W_):Calls prog 133 #[.int .u8 b] w (λe w'=>e=.returned (.bool (decide (UInt8.ofNat b∈X0)))/\w'=w):=by
 have c:=hid (B8e b q);go_enter func133,ntmps133;go_wp2
 go_loopw [3] (λv3 wr=>∃k:Nat,k<=13/\v3=.int .i64 k/\Hid (∀j,j<k->∀h:j<13,(spB[j]'h).toNat≠b)/\wr=w) (λi _=>13 - (intOf i).toNat)
 case atStart=>exact⟨0,by omega,rfl,hid (λj d=>by omega),by first | rfl | trivial⟩
 case round =>
  obtain⟨k,r,rfl,m,rfl⟩:=hrel;by_cases hlt:k<13
  .have o:(0:Int)<=k:=by omega
   have n:(k:Int)<13:=by omega
   by_cases hc:(spB[k]'hlt).toNat=b
   .have p:((({ data:=#[92,46,91,93,40,41,124,42,43,63,94,36,45] }:B_)[k]'hlt).toNat:Int)=(b:Int):=by
     have:=hc;unfold spB at this;omega
    have a:UInt8.ofNat b∈X0:=c.out.2 ⟨k,hlt,hc⟩;have l:=hid a;clear hc a;go_wp2;go_ret;exact⟨by rw[decide_eq_true l.out];rfl,rfl⟩
   .have p:¬((({ data:=#[92,46,91,93,40,41,124,42,43,63,94,36,45] }:B_)[k]'hlt).toNat:Int)=(b:Int):=by
     have:=hc;unfold spB at this;omega
    have g:=hid hc;clear hc;go_wp2;go_roundw
    case rel=>exact⟨k+1,by omega,by go_num,hid (λj d h=>by
     by_cases e:j=k
     .subst e;exact g.out
     .exact m.out j (by omega) h),trivial⟩
    case measure=>simp[intOf];omega
  .obtain rfl:k=13:=by omega
   have f:¬UInt8.ofNat b∈X0:=λh=>by
    obtain⟨j,d,e⟩:=c.out.1 h;exact m.out j d d e
   go_wp2;go_ret;exact⟨by rw[decide_eq_false f];rfl,rfl⟩
theorem B0r(a:Nat)(c:a<256)(w:W_):(convert 30 9 (.slice (some ⟨w.heap.size,0,none⟩) 1 1)).run prog (w.alloc (.cells #[.int .u8 a] 5))=.ok (.string ⟨#[UInt8.ofNat a]⟩) (w.alloc (.cells #[.int .u8 a] 5)):=by
 have h:=run_convert_bytes_back (P:=prog) (w.alloc (.cells #[.int .u8 a] 5)) 30 9 5 ⟨w.heap.size,0,none⟩ 1 [UInt8.ofNat a] underlying30 underlying5 underlying9 (by
  intro j b;have:j=0:=by simpa using b
  subst this;rw[Z5,Nat.add_zero,(J0.new w 5 #[.int .u8 a]).cell 0];simp[Nat.mod_eq_of_lt c])
 exact h
theorem Z4(b:Nat)(f:b<256)(w:W_):Calls prog 94 #[.int .i64 b] w (L5 (C4 b) w):=by
 by_cases h:b<32\/126<b
 .have i:(decide ((b:Int)<32) || decide ((126:Int)<b))=true:=by simp;omega
  have r:(0:Int)<=b / 16:=by omega
  have q:(b:Int) / 16<16:=by omega
  have p:(0:Int)<=b % 16:=by omega
  have n:(b:Int) % 16<16:=by omega
  have k:=hid (B9y ⟨b,f⟩ h);go_enter func94,ntmps94;go_wp2_with fail
  all_goals go_quiet (fail)
  all_goals
   go_wp2;go_ret;exact⟨_,rfl,k.out,M0 br_ _⟩
 .have i:(decide ((b:Int)<32) || decide ((126:Int)<b))=false:=by simp;omega
  have j:=λW=>B0r b f W
  have m:(0:Int)<=b:=by omega
  have l:(b:Int)<256:=by omega
  have a:=hid (λW=>B5 b f W);have d:Hid (C4 b=if UInt8.ofNat b∈X0 then [92,UInt8.ofNat b] else [UInt8.ofNat b]):=hid (by unfold C4;rw[if_neg h]);have c:Hid (∀o,Below w.heap.size w (w.alloc o)):=hid (λo=>br_.alloc (lr_ _) o);by_cases hs:UInt8.ofNat b∈X0
  .rw[if_pos hs] at d
   rw[decide_eq_true hs] at a;clear hs;go_enter func94,ntmps94;go_wp2_with fail;refine(a.out _).mono ?_;rintro e g⟨rfl,rfl⟩;go_wp2_with fail;go_ret;exact⟨_,rfl,by rw[d.out,L0];rfl,c.out _⟩
  .rw[if_neg hs] at d
   rw[decide_eq_false hs] at a;clear hs;go_enter func94,ntmps94;go_wp2_with fail;refine(a.out _).mono ?_;rintro e g⟨rfl,rfl⟩;go_wp2_with fail;go_ret;exact⟨_,rfl,by rw[d.out],c.out _⟩
def Z8(n:List U_×Bool)(w:W_)(e:Ending)(w':W_):Prop :=
 ∃s:B_,e=.returned (.tuple #[.string s,.bool n.2])/\(n.2=true->s.data.toList=n.1)/\(n.2=false->s=⟨#[]⟩)/\s.size<=60/\Below w.heap.size w w'
def B15(n:List U_×Bool)(w:W_)(e:Ending)(w':W_):Prop :=
 ∃s:B_,e=.returned (.string s)/\s.data.toList=n.1/\s.size<=60/\Below w.heap.size w w'
theorem A4o{s:B_}{l:List U_}(h:s.data.toList=l):s.size=l.length:=by rw[←h,Array.length_toList];rfl
theorem B3a(c:X4):A9G c 256=B6 c:=(A3j c).symm
theorem B1D(l:List Nd)(hg:∀n∈l,m6 n)(V:∀n∈l,P5 n.cls)(Z:l.length<=60)(b j cap:Nat):∀(u:Rx)(i:Nat) (w:W_),At l i u->q7 w (.slice (some ⟨b,j,none⟩) l.length cap) l ->
 Calls prog 98 #[.slice (some ⟨b,j,none⟩) l.length cap,.int .i64 i] w (Z8 (S0 u) w):=by
 have P:Hid (∀(w:W_),q7 w (.slice (some ⟨b,j,none⟩) l.length cap) l->∀k n,l[k]?=some n ->
  w.cell? ⟨b,j+k*5,none⟩=some (.int .i64 n.op)/\w.cell? ⟨b,j+k*5+1,none⟩=some (.int .u64 (n.cls.1:Int))/\w.cell? ⟨b,j+k*5+2,none⟩=some (.int .u64 (n.cls.2.1:Int)) /\
  w.cell? ⟨b,j+k*5+3,none⟩=some (.int .u64 (n.cls.2.2.1:Int))/\w.cell? ⟨b,j+k*5+4,none⟩=some (.int .u64 (n.cls.2.2.2:Int))):=hid (λw d k n hk=>by
  obtain⟨A',aF,hv,aE,aq,Y⟩:=d.open_;injection hv with e1 _ e2
  obtain⟨b',aB,hA,_,Q⟩:=Y (by have:=(List.getElem?_eq_some_iff.1 hk).1;omega);rw[hA] at e1;cases e1;exact Q w (λ_=>rfl) k n hk)
 have ah:=hid (λ(i:Nat)(hi:i<=l.length) (w:W_) (d:q7 w (.slice (some ⟨b,j,none⟩) l.length cap) l)=>C8 l hg Z (some ⟨b,j,none⟩) cap l.length i w (by omega) hi d);have au:=hid V;clear hg V;intro u
 induction u with
 | bgn =>
   intro i w hat d;obtain⟨t,s,r,q,p⟩:=P.out w d i _ hat.bgn;have hlt:=hat.lt;have f:=G0 (.bgn);have y:(i:Int)<l.length:=by omega
   dsimp only[zc] at t s r q p;clear hat d;go_enter func98,ntmps98;go_wp2;go_ret2;exact⟨⟨#[]⟩,rfl,(λh=>by cases h),λ_=>rfl,by simp[ByteArray.size],br_⟩
 | fin =>
   intro i w hat d;obtain⟨t,s,r,q,p⟩:=P.out w d i _ hat.fin;have hlt:=hat.lt;have f:=G0 (.fin);have y:(i:Int)<l.length:=by omega
   dsimp only[zc] at t s r q p;clear hat d;go_enter func98,ntmps98;go_wp2;go_ret2;exact⟨⟨#[]⟩,rfl,(λh=>by cases h),λ_=>rfl,by simp[ByteArray.size],br_⟩
 | star a iha =>
   intro i w hat d;obtain⟨t,s,r,q,p⟩:=P.out w d i _ hat.star.1;have hlt:=hat.lt;have f:=G0 (.star a);have y:(i:Int)<l.length:=by omega
   dsimp only[zc] at t s r q p;clear hat d iha;go_enter func98,ntmps98;go_wp2;go_ret2;exact⟨⟨#[]⟩,rfl,(λh=>by cases h),λ_=>rfl,by simp[ByteArray.size],br_⟩
 | opt a iha =>
   intro i w hat d;obtain⟨t,s,r,q,p⟩:=P.out w d i _ hat.opt.1;have hlt:=hat.lt;have f:=G0 (.opt a);have y:(i:Int)<l.length:=by omega
   dsimp only[zc] at t s r q p;clear hat d iha;go_enter func98,ntmps98;go_wp2;go_ret2;exact⟨⟨#[]⟩,rfl,(λh=>by cases h),λ_=>rfl,by simp[ByteArray.size],br_⟩
 | plus a iha =>
   intro i w hat d;obtain⟨t,s,r,q,p⟩:=P.out w d i _ hat.plus.1;have hlt:=hat.lt;have f:=G0 (.plus a);have y:(i:Int)<l.length:=by omega
   dsimp only[zc] at t s r q p;clear hat d iha;go_enter func98,ntmps98;go_wp2;go_ret2;exact⟨⟨#[]⟩,rfl,(λh=>by cases h),λ_=>rfl,by simp[ByteArray.size],br_⟩
 | alt a c iha ihc =>
   intro i w hat d;obtain⟨t,s,r,q,p⟩:=P.out w d i _ hat.alt.1;have hlt:=hat.lt;have f:=G0 (.alt a c);have y:(i:Int)<l.length:=by omega
   dsimp only[zc] at t s r q p;clear hat d iha ihc;go_enter func98,ntmps98;go_wp2;go_ret2;exact⟨⟨#[]⟩,rfl,(λh=>by cases h),λ_=>rfl,by simp[ByteArray.size],br_⟩
 | empty =>
   intro i w hat d;obtain⟨t,s,r,q,p⟩:=P.out w d i _ hat.empty;have hlt:=hat.lt;have f:=G0 (.empty);have y:(i:Int)<l.length:=by omega
   dsimp only[zc] at t s r q p;clear hat d;go_enter func98,ntmps98;go_wp2;go_ret2;exact⟨⟨#[]⟩,rfl,λ_=>rfl,(λh=>by cases h),by simp[ByteArray.size],br_⟩
 | byte c =>
   intro i w hat d;obtain⟨J,H,G,F⟩:=c;obtain⟨t,s,r,q,p⟩:=P.out w d i _ hat.byte;have hlt:=hat.lt;have f:=G0 (.byte (J,H,G,F));have y:(i:Int)<l.length:=by omega
   dsimp only at t s r q p;have Q:=au.out _ (List.mem_of_getElem? hat.byte);have g:S0 (.byte (J,H,G,F))=if B6 (J,H,G,F)=1 then ([UInt8.ofNat (R7 (J,H,G,F) 0)],true) else ([],false):=rfl
   have O:=hid (λW=>A3F J H G F W Q);have af:=hid (λ(x:Nat)(hx:x<256) (W:W_)=>A1s J H G F x W Q hx);unfold A3u at O;rw[B3a] at O;have HR:=hid d;have am:=B7i (J,H,G,F);by_cases N:B6 (J,H,G,F)=1
   .rw[g,if_pos N]
    obtain⟨ao,C⟩:=F8 N;rw[N] at O;have ad:=hid C;have ax:=hid hat.byte;clear hat d Q g N C am;generalize R7 (J,H,G,F) 0=m at *;go_enter func98,ntmps98;go_wp2_with fail;refine(O.out _).mono ?_;rintro e w1⟨rfl,B⟩;have E:=hid B;clear B;go_wp2_with fail
    go_loopw [6] (λvl wr=>∃k:Nat,k<=m/\vl=.int .i64 k/\Hid (Below w.heap.size w wr)) (λv _=>m - (intOf v).toNat)
    case atStart=>exact⟨0,by omega,rfl,E⟩
    case round =>
     obtain⟨k,hk,rfl,HB⟩:=hrel;obtain⟨p0,p1,p2,p3,p4⟩:=P.out wr (HR.out.below HB.out) i _ ax.out;dsimp only at p0 p1 p2 p3 p4;have T:=HB.out.size;have o:k<256:=by omega
     have HI:=hid (af.out k o wr);unfold A7A at HI;by_cases hkm:k=m
     .subst hkm
      rw[(ad.out k o).2 rfl] at HI;have aw:=hid (λW=>A62 k o W);go_wp2_with fail;refine HI.out.mono ?_;rintro e w2⟨rfl,z⟩;have A:=hid (HB.out.trans (z.mono T));have aD:=aw.out w2;clear z;go_wp2_with fail;go_ret2;exact⟨⟨#[UInt8.ofNat k]⟩,rfl,λ_=>rfl,(λh=>by cases h),by simp[ByteArray.size],A.out.alloc A.out.size _⟩
     .have X:has (J,H,G,F) k=false:=by
       cases h:has (J,H,G,F) k with
       | false=>rfl
       | true=>exact absurd ((ad.out k o).1 h) hkm
      rw[X] at HI;clear X;go_wp2_with fail;refine HI.out.mono ?_;rintro e w2⟨rfl,z⟩;have A:=hid (HB.out.trans (z.mono T));clear z;go_wp2_with fail;go_roundw
      case rel=>exact⟨k+1,by omega,by go_num,A⟩
      case measure=>simp[intOf];omega
   .rw[g,if_neg N]
    have av:=hid N;clear hat d Q g N af;generalize B6 (J,H,G,F)=cn at *;have hd:((cn:Int) !=1)=true:=by have:=av.out;simp;omega
    go_enter func98,ntmps98;go_wp2_with fail;refine(O.out _).mono ?_;rintro e w1⟨rfl,B⟩;go_wp2_with fail;go_ret2;exact⟨⟨#[]⟩,rfl,(λh=>by cases h),λ_=>rfl,by simp[ByteArray.size],B⟩
 | cat a c iha ihc =>
   intro i w hat d;obtain⟨t,s,r,q,p⟩:=P.out w d i _ hat.cat.1;have hlt:=hat.lt;have f:=G0 (.cat a c);have y:(i:Int)<l.length:=by omega
   dsimp only[zc] at t s r q p;obtain⟨_,D,M⟩:=hat.cat;have HA:=hid (λW h=>iha (i+1) W D h);have HC:=hid (λW h=>ihc (i+1+(A0 a).length) W M h);have HR:=hid d;have HE:=hid (λW h=>ah.out (i+1) (by omega) W h);rw[A0z D] at HE;have g:S0 (.cat a c)=A2s (S0 a) (S0 c):=rfl;rw[g]
   have L:(S0 a).2=true->(S0 c).2=true->(S0 a).1.length+(S0 c).1.length<=60:=λ_ _=>by
    have:=A2A a;have:=A2A c;have:=D.lt;have:=M.lt;omega
   have ae:=hid L;generalize i+1+(A0 a).length=e2 at *;clear hat d iha ihc D M g L;generalize S0 a=na at *;generalize S0 c=nc at *;obtain⟨ta,xa⟩:=na;obtain⟨tc,xc⟩:=nc;dsimp only at ae;go_enter func98,ntmps98;go_wp2_with fail;refine(HA.out _ HR.out).mono ?_;rintro e w1⟨sa,rfl,S,al,aR,B⟩;have E:=hid B;have ab:=hid S;clear B S al;dsimp only at ab ⊢;go_wp2_with fail;refine(HE.out _ (HR.out.below E.out)).mono ?_;rintro e aJ⟨rfl,rfl⟩;go_wp2_with fail;refine(HC.out _ (HR.out.below E.out)).mono ?_;rintro e w2⟨sc,rfl,R,ak,aQ,z⟩;have A:=hid (E.out.trans (z.mono E.out.size));have aa:=hid R;clear z R ak;dsimp only at aa ⊢;cases xa with
   | true =>
     cases xc with
     | true =>
       have N:=ab.out rfl;have h2:=aa.out rfl;have h3:=ae.out rfl rfl;have H1:=hid N;have H2:=hid h2;have h4:sa.size+sc.size<=60:=by rw[A4o N,A4o h2];exact h3
       clear N h2;go_wp2_with fail;go_ret2;refine⟨sa++sc,rfl,λ_=>?_,(λh=>by simp[A2s] at h),by simp;omega,A.out⟩;simp[A2s,H1.out,H2.out]
     | false =>
       go_wp2_with fail;go_ret2;exact⟨⟨#[]⟩,by simp[A2s];split <;> rfl,(λh=>by simp[A2s] at h;split at h <;> cases h),λ_=>rfl,by simp[ByteArray.size],A.out⟩
   | false =>
     go_wp2_with fail;go_ret2;exact⟨⟨#[]⟩,by simp[A2s];split <;> rfl,(λh=>by simp[A2s] at h;split at h <;> cases h),λ_=>rfl,by simp[ByteArray.size],A.out⟩
theorem B3y(l:List Nd)(hg:∀n∈l,m6 n)(Q:∀n∈l,P5 n.cls)(L:l.length<=60)(b y cap:Nat):∀(u:Rx)(i:Nat) (w:W_),At l i u->q7 w (.slice (some ⟨b,y,none⟩) l.length cap) l ->
 Calls prog 62 #[.slice (some ⟨b,y,none⟩) l.length cap,.int .i64 i] w (B15 (S0 u) w):=by
 have N:Hid (∀(w:W_),q7 w (.slice (some ⟨b,y,none⟩) l.length cap) l->∀k n,l[k]?=some n ->
  w.cell? ⟨b,y+k*5,none⟩=some (.int .i64 n.op)/\w.cell? ⟨b,y+k*5+1,none⟩=some (.int .u64 (n.cls.1:Int))/\w.cell? ⟨b,y+k*5+2,none⟩=some (.int .u64 (n.cls.2.1:Int)) /\
  w.cell? ⟨b,y+k*5+3,none⟩=some (.int .u64 (n.cls.2.2.1:Int))/\w.cell? ⟨b,y+k*5+4,none⟩=some (.int .u64 (n.cls.2.2.2:Int))):=hid (λw g k n hk=>by
  obtain⟨A',ap,hv,ao,ah,T⟩:=g.open_;injection hv with e1 _ e2
  obtain⟨b',al,hA,_,hc⟩:=T (by have:=(List.getElem?_eq_some_iff.1 hk).1;omega);rw[hA] at e1;cases e1;exact hc w (λ_=>rfl) k n hk)
 have Z:=hid (λ(i:Nat)(hi:i<=l.length) (w:W_) (g:q7 w (.slice (some ⟨b,y,none⟩) l.length cap) l)=>C8 l hg L (some ⟨b,y,none⟩) cap l.length i w (by omega) hi g);have aC:=hid Q;have C:=hid (λ(u:Rx)(i:Nat) (w:W_) (hat:At l i u) (g:q7 w (.slice (some ⟨b,y,none⟩) l.length cap) l)=>B1D l hg Q L b y cap u i w hat g);clear hg Q;intro u
 induction u with
 | bgn =>
   intro i w hat g;have hlt:=hat.lt;have t:=G0 (.bgn);have D:(i:Int)<l.length:=by omega
   have q:=hid hat.bgn;have f:=hid (C.out (.bgn) i w hat g);have B:=hid g;unfold Z8 at f;by_cases hwh:(S0 (.bgn)).2=true
   .rw[hwh] at f
    clear hat g ;generalize S0 (.bgn)=n at *;clear hwh;go_enter func62,ntmps62;go_wp2_with fail;refine f.out.mono ?_;rintro e A⟨s,rfl,j,p,z,m⟩;have o:=j (by simp);clear j p;go_wp2_with fail;go_ret;exact⟨s,rfl,o,z,m⟩
   .have d:(S0 (.bgn)).2=false:=by simpa using hwh
    rw[d] at f;clear hwh;have E:Hid ((S0 (.bgn)).1=[]):=hid rfl;clear hat g d ;generalize S0 (.bgn)=n at *;go_enter func62,ntmps62;go_wp2_with fail;refine f.out.mono ?_;rintro e A⟨s,rfl,j,p,z,m⟩;have r:=hid m;obtain⟨F,_⟩:=N.out A (B.out.below r.out) i _ q.out;dsimp only at F;clear j p m;go_wp2_with fail;go_ret;exact⟨⟨#[]⟩,rfl,by rw[E.out],by simp[ByteArray.size],r.out⟩
 | fin =>
   intro i w hat g;have hlt:=hat.lt;have t:=G0 (.fin);have D:(i:Int)<l.length:=by omega
   have q:=hid hat.fin;have f:=hid (C.out (.fin) i w hat g);have B:=hid g;unfold Z8 at f;by_cases hwh:(S0 (.fin)).2=true
   .rw[hwh] at f
    clear hat g ;generalize S0 (.fin)=n at *;clear hwh;go_enter func62,ntmps62;go_wp2_with fail;refine f.out.mono ?_;rintro e A⟨s,rfl,j,p,z,m⟩;have o:=j (by simp);clear j p;go_wp2_with fail;go_ret;exact⟨s,rfl,o,z,m⟩
   .have d:(S0 (.fin)).2=false:=by simpa using hwh
    rw[d] at f;clear hwh;have E:Hid ((S0 (.fin)).1=[]):=hid rfl;clear hat g d ;generalize S0 (.fin)=n at *;go_enter func62,ntmps62;go_wp2_with fail;refine f.out.mono ?_;rintro e A⟨s,rfl,j,p,z,m⟩;have r:=hid m;obtain⟨F,_⟩:=N.out A (B.out.below r.out) i _ q.out;dsimp only at F;clear j p m;go_wp2_with fail;go_ret;exact⟨⟨#[]⟩,rfl,by rw[E.out],by simp[ByteArray.size],r.out⟩
 | star a iha =>
   intro i w hat g;have hlt:=hat.lt;have t:=G0 (.star a);have D:(i:Int)<l.length:=by omega
   have q:=hid hat.star.1;have f:=hid (C.out (.star a) i w hat g);have B:=hid g;unfold Z8 at f;by_cases hwh:(S0 (.star a)).2=true
   .rw[hwh] at f
    clear hat g iha;generalize S0 (.star a)=n at *;clear hwh;go_enter func62,ntmps62;go_wp2_with fail;refine f.out.mono ?_;rintro e A⟨s,rfl,j,p,z,m⟩;have o:=j (by simp);clear j p;go_wp2_with fail;go_ret;exact⟨s,rfl,o,z,m⟩
   .have d:(S0 (.star a)).2=false:=by simpa using hwh
    rw[d] at f;clear hwh;have E:Hid ((S0 (.star a)).1=[]):=hid rfl;clear hat g d iha;generalize S0 (.star a)=n at *;go_enter func62,ntmps62;go_wp2_with fail;refine f.out.mono ?_;rintro e A⟨s,rfl,j,p,z,m⟩;have r:=hid m;obtain⟨F,_⟩:=N.out A (B.out.below r.out) i _ q.out;dsimp only at F;clear j p m;go_wp2_with fail;go_ret;exact⟨⟨#[]⟩,rfl,by rw[E.out],by simp[ByteArray.size],r.out⟩
 | opt a iha =>
   intro i w hat g;have hlt:=hat.lt;have t:=G0 (.opt a);have D:(i:Int)<l.length:=by omega
   have q:=hid hat.opt.1;have f:=hid (C.out (.opt a) i w hat g);have B:=hid g;unfold Z8 at f;by_cases hwh:(S0 (.opt a)).2=true
   .rw[hwh] at f
    clear hat g iha;generalize S0 (.opt a)=n at *;clear hwh;go_enter func62,ntmps62;go_wp2_with fail;refine f.out.mono ?_;rintro e A⟨s,rfl,j,p,z,m⟩;have o:=j (by simp);clear j p;go_wp2_with fail;go_ret;exact⟨s,rfl,o,z,m⟩
   .have d:(S0 (.opt a)).2=false:=by simpa using hwh
    rw[d] at f;clear hwh;have E:Hid ((S0 (.opt a)).1=[]):=hid rfl;clear hat g d iha;generalize S0 (.opt a)=n at *;go_enter func62,ntmps62;go_wp2_with fail;refine f.out.mono ?_;rintro e A⟨s,rfl,j,p,z,m⟩;have r:=hid m;obtain⟨F,_⟩:=N.out A (B.out.below r.out) i _ q.out;dsimp only at F;clear j p m;go_wp2_with fail;go_ret;exact⟨⟨#[]⟩,rfl,by rw[E.out],by simp[ByteArray.size],r.out⟩
 | alt a c iha ihc =>
   intro i w hat g;have hlt:=hat.lt;have t:=G0 (.alt a c);have D:(i:Int)<l.length:=by omega
   have q:=hid hat.alt.1;have f:=hid (C.out (.alt a c) i w hat g);have B:=hid g;unfold Z8 at f;by_cases hwh:(S0 (.alt a c)).2=true
   .rw[hwh] at f
    clear hat g iha ihc;generalize S0 (.alt a c)=n at *;clear hwh;go_enter func62,ntmps62;go_wp2_with fail;refine f.out.mono ?_;rintro e A⟨s,rfl,j,p,z,m⟩;have o:=j (by simp);clear j p;go_wp2_with fail;go_ret;exact⟨s,rfl,o,z,m⟩
   .have d:(S0 (.alt a c)).2=false:=by simpa using hwh
    rw[d] at f;clear hwh;have E:Hid ((S0 (.alt a c)).1=[]):=hid rfl;clear hat g d iha ihc;generalize S0 (.alt a c)=n at *;go_enter func62,ntmps62;go_wp2_with fail;refine f.out.mono ?_;rintro e A⟨s,rfl,j,p,z,m⟩;have r:=hid m;obtain⟨F,_⟩:=N.out A (B.out.below r.out) i _ q.out;dsimp only at F;clear j p m;go_wp2_with fail;go_ret;exact⟨⟨#[]⟩,rfl,by rw[E.out],by simp[ByteArray.size],r.out⟩
 | empty =>
   intro i w hat g;have hlt:=hat.lt;have t:=G0 (.empty);have D:(i:Int)<l.length:=by omega
   have q:=hid hat.empty;have f:=hid (C.out (.empty) i w hat g);have B:=hid g;unfold Z8 at f;by_cases hwh:(S0 (.empty)).2=true
   .rw[hwh] at f
    clear hat g ;generalize S0 (.empty)=n at *;clear hwh;go_enter func62,ntmps62;go_wp2_with fail;refine f.out.mono ?_;rintro e A⟨s,rfl,j,p,z,m⟩;have o:=j (by simp);clear j p;go_wp2_with fail;go_ret;exact⟨s,rfl,o,z,m⟩
   .have d:(S0 (.empty)).2=false:=by simpa using hwh
    rw[d] at f;clear hwh;exact absurd d (by simp[S0])
 | byte c =>
   intro i w hat g;have hlt:=hat.lt;have t:=G0 (.byte c);have D:(i:Int)<l.length:=by omega
   have q:=hid hat.byte;have f:=hid (C.out (.byte c) i w hat g);have B:=hid g;unfold Z8 at f;by_cases hwh:(S0 (.byte c)).2=true
   .rw[hwh] at f
    clear hat g ;generalize S0 (.byte c)=n at *;clear hwh;go_enter func62,ntmps62;go_wp2_with fail;refine f.out.mono ?_;rintro e A⟨s,rfl,j,p,z,m⟩;have o:=j (by simp);clear j p;go_wp2_with fail;go_ret;exact⟨s,rfl,o,z,m⟩
   .have d:(S0 (.byte c)).2=false:=by simpa using hwh
    rw[d] at f;clear hwh
    have E:Hid ((S0 (.byte c)).1=[]):=hid (by
     simp only[S0] at d ⊢;by_cases h:B6 c=1
     .rw[if_pos h] at d;simp at d
     .rw[if_neg h])
    clear hat g d ;generalize S0 (.byte c)=n at *;go_enter func62,ntmps62;go_wp2_with fail;refine f.out.mono ?_;rintro e A⟨s,rfl,j,p,z,m⟩;have r:=hid m;obtain⟨F,_⟩:=N.out A (B.out.below r.out) i _ q.out;dsimp only at F;clear j p m;go_wp2_with fail;go_ret;exact⟨⟨#[]⟩,rfl,by rw[E.out],by simp[ByteArray.size],r.out⟩
 | plus a iha =>
   intro i w hat g;have hlt:=hat.lt;have t:=G0 (.plus a);have D:(i:Int)<l.length:=by omega
   have q:=hid hat.plus.1;have f:=hid (C.out (.plus a) i w hat g);have B:=hid g;unfold Z8 at f;by_cases hwh:(S0 (.plus a)).2=true
   .rw[hwh] at f
    clear hat g iha;generalize S0 (.plus a)=n at *;clear hwh;go_enter func62,ntmps62;go_wp2_with fail;refine f.out.mono ?_;rintro e A⟨s,rfl,j,p,z,m⟩;have o:=j (by simp);clear j p;go_wp2_with fail;go_ret;exact⟨s,rfl,o,z,m⟩
   .have d:(S0 (.plus a)).2=false:=by simpa using hwh
    rw[d] at f;clear hwh;have E:Hid ((S0 (.plus a)).1=(S0 a).1):=hid rfl;have HA:=hid (λW h=>iha (i+1) W hat.plus.2 h);clear hat g d iha;generalize S0 (.plus a)=n at *;generalize S0 a=na at *;go_enter func62,ntmps62;go_wp2_with fail;refine f.out.mono ?_;rintro e A⟨s,rfl,j,p,z,m⟩;have r:=hid m;obtain⟨F,_⟩:=N.out A (B.out.below r.out) i _ q.out;dsimp only at F;clear j p m;go_wp2_with fail;refine(HA.out _ (B.out.below r.out)).mono ?_;rintro e w2⟨s2,rfl,ae,ad,H⟩;go_wp2_with fail;go_ret;exact⟨s2,rfl,by rw[E.out,ae],ad,r.out.trans (H.mono r.out.size)⟩
 | cat a c iha ihc =>
   intro i w hat g;have hlt:=hat.lt;have t:=G0 (.cat a c);have D:(i:Int)<l.length:=by omega
   have q:=hid hat.cat.1;have f:=hid (C.out (.cat a c) i w hat g);have B:=hid g;unfold Z8 at f;by_cases hwh:(S0 (.cat a c)).2=true
   .rw[hwh] at f
    clear hat g iha ihc;generalize S0 (.cat a c)=n at *;clear hwh;go_enter func62,ntmps62;go_wp2_with fail;refine f.out.mono ?_;rintro e A⟨s,rfl,j,p,z,m⟩;have o:=j (by simp);clear j p;go_wp2_with fail;go_ret;exact⟨s,rfl,o,z,m⟩
   .have d:(S0 (.cat a c)).2=false:=by simpa using hwh
    rw[d] at f;clear hwh;obtain⟨_,G,M⟩:=hat.cat
    have E:Hid ((S0 (.cat a c)).1=if (S0 c).1.length > (S0 a).1.length then (S0 c).1 else (S0 a).1):=hid (by
     simp only[S0,A2s] at d ⊢
     split at d
     .cases d
     .rename_i af
      rw[if_neg af]
      split <;> rfl)
    have HA:=hid (λW h=>iha (i+1) W G h);have HC:=hid (λW h=>ihc (i+1+(A0 a).length) W M h);have aA:=G.lt;have ax:=G0 a;have HE:=hid (λW h=>Z.out (i+1) (by omega) W h);rw[A0z G] at HE;generalize i+1+(A0 a).length=e2 at *;clear hat g d iha ihc G M;generalize S0 (.cat a c)=n at *;generalize S0 a=na at *;generalize S0 c=nc at *;go_enter func62,ntmps62;go_wp2_with fail;refine f.out.mono ?_;rintro e A⟨s,rfl,j,p,z,m⟩;have r:=hid m;obtain⟨F,_⟩:=N.out A (B.out.below r.out) i _ q.out;dsimp only at F;clear j p m;go_wp2_with fail;refine(HA.out _ (B.out.below r.out)).mono ?_;rintro e w2⟨sa,rfl,P,S,H⟩;have J:=hid (r.out.trans (H.mono r.out.size));have aj:=hid P;clear H;go_wp2_with fail;refine(HE.out _ (B.out.below J.out)).mono ?_;rintro e ar⟨rfl,rfl⟩;go_wp2_with fail;refine(HC.out _ (B.out.below J.out)).mono ?_;rintro e w3⟨sc,rfl,O,R,V⟩;have aa:=hid (J.out.trans (V.mono J.out.size));have ai:=hid O;have Y:=hid (A4o P);have X:=hid (A4o O);clear V P O;by_cases hlt2:sa.size<sc.size
    .have hd:decide ((sa.size:Int)<(sc.size:Int))=true:=by simpa using hlt2
     go_wp2_with fail;go_ret;exact⟨sc,rfl,by rw[E.out,if_pos (by rw[←Y.out,←X.out];exact hlt2),ai.out],R,aa.out⟩
    .have hd:decide ((sa.size:Int)<(sc.size:Int))=false:=by simpa using hlt2
     go_wp2_with fail;go_ret;exact⟨sa,rfl,by rw[E.out,if_neg (by rw[←Y.out,←X.out];exact hlt2),aj.out],S,aa.out⟩
