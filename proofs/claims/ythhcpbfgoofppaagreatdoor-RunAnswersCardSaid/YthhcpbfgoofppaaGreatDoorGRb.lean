import Derived.Test.YthhcpbfgoofppaaGreatDoorGEach
import Derived.Test.YthhcpbfgoofppaaGreatDoorGMean
import Derived.Test.YthhcpbfgoofppaaGreatDoorGReach
set_option linter.unusedVariables false
set_option linter.unusedSimpArgs false
open Wf
set_option maxRecDepth 100000
set_option maxHeartbeats 8000000
open Go.Lib (hid)
open Go.Proofs.Tryz hiding parts
namespace Go.Proofs.YthhcpbfgoofppaaGreatDoor
open Go.RowKit Wf
theorem B3L(t:Rx):∀n∈A0 t,m6 n:=by
 intro n d;obtain⟨i,a,f⟩:=List.getElem_of_mem d;obtain⟨u,c⟩:=A3o t i a;obtain⟨m,b,_,g⟩:=c.node;rw[List.getElem?_eq_getElem a,f] at b;cases b;exact g
def A7B(s:List U_)(t:Rx)(f:Nat)(w:W_)(e:Ending)(w':W_):Prop :=
 ∃(A:Option Addr)(cap:Nat),e=.returned (.slice A (A3f s t f).length cap)/\Rd1 w' (.slice A (A3f s t f).length cap) (D0 (A3f s t f))/\Below w.heap.size w w'
theorem B1I(l:List Nd)(t:Rx)(hl:l=A0 t)(M:∀n∈l,P5 n.cls)(P:l.length<=60)(b y cap:Nat)(s:B_)(hs:s.size<=400)(f:Nat)(hf:f<=s.size)(w:W_)(hr:q7 w (.slice (some ⟨b,y,none⟩) l.length cap) l):
 Calls prog 136 #[.slice (some ⟨b,y,none⟩) l.length cap,.string s,.int .i64 f] w (A7B s.data.toList t f w):=by
 obtain⟨i0,ah,aa,Z,Y⟩:=info_parts A0B;have o:∀n∈l,m6 n:=by rw[hl];exact B3L t
 have d:At l 0 t:=by rw[hl];exact At.whole t
 have aq:=hid (B1F l o M P b y cap s hs t 0 d);have O:=λW=>B8 (s.size+1) (by omega) W
 rw[show((s.size+1:Nat):Int)=(s.size:Int)+1 by omega] at O;have ae:=j7 (s.size+1) (.bool false) f (by omega);have hz:(0:Int)<=s.size:=by omega
 have ao:=hid (show s.data.toList.length=s.size by simp);have HR:=hid hr;have h1:(f:Int)<s.size+1:=by omega
 clear hr M o d hl;go_enter func136,ntmps136;go_wp2_with fail;clear O ae;have N:=A5B w (s.size+1) f true;have q:Below w.heap.size w (w.alloc (.cells ((A0r (s.size+1) (.bool false)).setIfInBounds f (.bool true)) 4)):=ba_;have z:=aq.out;unfold Z2 at z;refine(z _ w.heap.size _ (HR.out.below q) N).mono ?_;rintro e F⟨g,D,rfl,hg,J,B⟩;have HG:=hid hg;have HB:=hid (q.trans (B.mono q.size));have ar:=hid hg.lt;have am:=hid (show w.heap.size+1<=F.heap.size by have:=B.size;simp at this;omega)
 have al:Hid (∀j,j<s.size+1->(D j=true↔M4 s.data.toList t f j)):=hid (λj hj=>by
  rw[J j hj];constructor
  .rintro⟨k,hk,hd,p⟩
   unfold A1v at hd
   split at hd
   .rename_i e;subst e;exact p
   .cases hd
  .intro p
   exact⟨f,by omega,by simp[A1v],p⟩)
 clear hg J q B N z;have R:A3f s.data.toList t f=upTo_ (M4 s.data.toList t f) (s.size+1):=by unfold A3f;rw[ao.out]
 have ap:=hid R;clear R;go_wp2_with fail
 go_loopw [9,10] (λv9 v10 wy=>∃k:Nat,k<=s.size+1/\v10=.int .i64 k/\Hid (wy.ownsRow F.heap.size 3 1 v9 (upTo_ (M4 s.data.toList t f) k).length (D0 (upTo_ (M4 s.data.toList t f) k)))/\Hid (RB wy g (s.size+1) D)/\Hid (Below w.heap.size w wy)/\F.heap.size<=wy.heap.size) (λ_ i _=>s.size+1 - (intOf i).toNat)
 case atStart=>exact⟨0,by omega,rfl,hid (World.ownsRow_nil _ _ _ _),HG,HB,lr_ _⟩
 case round =>
  clear HG HB;obtain⟨k,hk,rfl,V,hE,X,ac⟩:=hrel;by_cases hlt:k<s.size+1
  .have A:=hE.out.cell hlt
   have aD:(k:Int)<s.size+1:=by omega
   have Q:=al.out k hlt;have T:=hid Q;clear Q;cases hb:D k with
   | false =>
     rw[hb] at A;have E:=hid hb;clear hb;go_wp2;go_roundw
     case rel =>
      have af:¬M4 s.data.toList t f k:=λh=>by have:=T.out.2 h;rw[E.out] at this;cases this
      exact⟨k+1,by omega,by go_num,by rw[A2V af];exact V,hE,X,ac⟩
     case measure=>simp[intOf];omega
   | true =>
     rw[hb] at A;have E:=hid hb;have HY:=hid (T.out.1 E.out);have r:=hid (A4y (M4 s.data.toList t f) k);have C:=hid (V.out.alloc (.cells #[.int .i64 k] 3));clear hb;generalize hxs:upTo_ (M4 s.data.toList t f) k=xs at *
     go_wp2_with (at_builtin;refine wpList_append_own _ rfl (.tmp 32) (.tmp 34) _ rfl F.heap.size 3 i0 _ 1 8 underlying191 ah aa Z Y rfl (by omega) _ xs.length (D0 xs) rfl C.out ⟨wr.heap.size,0,none⟩ 1 1 [.int .i64 k] rfl rfl ?_ ?_ (by have:=r.out;unfold maxLen;omega) (by have:=r.out;omega) (by simp;omega) ?_)
     .intro j v H
      match j,H with
      | 0,H =>
        cases H;simp[Z5]
      | j+1,H=>simp at H
     .intro u hu
      simp at hu;subst hu
      rfl
     .intro v' w' m a _
      have c:Below w.heap.size w (wr.alloc (.cells #[.int .i64 k] 3)):=X.out.alloc (by have:=X.out.size;omega) _
      have hB':Hid (Below w.heap.size w w'):=hid ⟨a.os.trans c.os,a.tape.trans c.tape,a.output.trans c.output,Nat.le_trans c.size a.size,λi hi=>(a.block i (by have:=c.size;omega) (λe=>by
       have h1:=(C.out.lt _ e.symm).1;have h2:=am.out;omega)).trans (c.block i hi)⟩
      have hE':=hid ((hE.out.alloc (.cells #[.int .i64 k] 3)).kept a (λe=>by
       have h1:=(C.out.lt _ e.symm).1;have h2:=ar.out;omega))
      have hO':Hid (w'.ownsRow F.heap.size 3 1 v' (xs++[k]).length (D0 (xs++[k]))):=hid (by rw[A7U];simpa using m);have L:=a.size;have ad:F.heap.size<=w'.heap.size:=by simp at L;omega
      clear a m c L A;go_wp2;go_roundw
      case rel=>exact⟨k+1,by omega,by go_num,by rw[A3I HY.out,hxs];exact hO',hE',hB',ad⟩
      case measure=>simp[intOf];omega
  .obtain rfl:k=s.size+1:=by omega
   rw[←ap.out] at V;go_wp2;go_ret;have S:=V.out;obtain⟨VA,vn,G,rfl,_,_,ab,_⟩:=Rd.of_own S;obtain rfl:vn=(A3f s.data.toList t f).length:=by simp[D0] at ab;omega
   exact⟨VA,G,rfl,Rd.of_own S,X.out⟩
theorem B2y(s:List U_)(t:Rx)(i:Nat):X9 s t i=(A3f s t i).getLast?:=rfl
theorem B40{a:List Nat}{j:Nat}(h:a.getLast? = some j):0<a.length/\a[a.length - 1]?=some j:=by
 rw[List.getLast?_eq_getElem?] at h;exact⟨by have:=(List.getElem?_eq_some_iff.1 h).1;omega,h⟩
def B6L(r:Option (Nat×Nat))(w:W_)(e:Ending)(w':W_):Prop :=
 (∃x y:Nat,r=some (x,y)/\e=.returned (.tuple #[.agg #[.int .i64 x,.int .i64 y],.bool true])/\Below w.heap.size w w') \/
 (r=none/\e=.returned (.tuple #[.agg #[.int .i64 0,.int .i64 0],.bool false])/\Below w.heap.size w w')
theorem B6K(l:List Nd)(t:Rx)(q:l=A0 t)(O:∀n∈l,P5 n.cls)(y:l.length<=60)(b B cap:Nat)(c:B_)(hx:c.size<=400)(r:Nat)(T:r<=c.size+1)(w:W_)(hr:q7 w (.slice (some ⟨b,B,none⟩) l.length cap) l):
 Calls prog 99 #[.slice (some ⟨b,B,none⟩) l.length cap,.string c,.int .i64 r] w (B6L (O8 c.data.toList t r) w):=by
 have X:=hid λf T W h=>B1I l t q O y b B cap c hx f T W h
 have HR:=hid hr;have m:Hid (c.data.toList.length=c.size):=hid (by simp);have S:=hid ((Below.refl w.heap.size w).alloc (lr_ _) (.cells #[.int .i64 0,.int .i64 0] 68));have R:=hid (J0.new w 68 #[.int .i64 0,.int .i64 0]);clear q O y hr;go_enter func99,ntmps99;go_wp2_with fail
 go_loopw [8] (λv8 wr=>∃(i:Nat),r<=i/\i<=c.size+1/\v8=.int .i64 i/\Hid (O8 c.data.toList t r=O8 c.data.toList t i)/\Hid (Below w.heap.size w wr)/\Hid (J0 wr w.heap.size 68 #[.int .i64 0,.int .i64 0])) (λi _=>c.size+1 - (intOf i).toNat)
 case atStart=>exact⟨r,lr_ _,T,rfl,hid rfl,S,R⟩
 case round =>
  clear S R;obtain⟨i,am,al,rfl,J,L,F⟩:=hrel;by_cases hlt:i<=c.size
  .have hd:decide (i<=c.size)=true:=by simpa using hlt
   have Y:=hid (X.out i hlt wr (HR.out.below L.out));unfold A7B at Y;have a:=B2y c.data.toList t i
   have ao:(A3f c.data.toList t i).length<=402:=by
    have:=A4y (M4 c.data.toList t i) (c.data.toList.length+1);rw[m.out] at this;show(Go.Proofs.YthhcpbfgoofppaaGreatDoor.upTo_ _ (c.data.toList.length+1)).length<=402;rw[m.out];omega
   generalize A3f c.data.toList t i=xs at *;cases q:X9 c.data.toList t i with
   | some j =>
     rw[q] at a;obtain⟨s,z⟩:=B40 a.symm;have o:Hid (O8 c.data.toList t r=some (i,j)):=hid (by rw[J.out];exact A1l (by rw[m.out];exact hlt) q);have HG:=hid z;clear q J a z;go_wp2_with fail;refine Y.out.mono ?_;rintro e H⟨A,cp,rfl,p,d⟩;obtain⟨A',ad,Z,V,ab,D⟩:=Rd1.open_ p;have P:(D0 xs).length=xs.length:=by simp[D0]
     rw[P] at Z V D;injection Z with e1 _ e2
     subst e1;subst e2;obtain⟨bf,of,rfl,aq,hc⟩:=D s;have g0:=hc H (λ_=>rfl) (xs.length - 1) (.int .i64 j) (by simp[D0,HG.out]);have g:=F.out.kept d;have s0:H.cell? ⟨w.heap.size,0,none⟩=some (.int .i64 0):=g.cell 0;have s1:H.cell? ⟨w.heap.size,1,none⟩=some (.int .i64 0):=g.cell 1;have z0:H.frozen? ⟨w.heap.size,0,none⟩=false:=g.frozen 0;have z1:H.frozen? ⟨w.heap.size,1,none⟩=false:=g.frozen 1;have E:=hid g;have G:=hid (L.out.trans (d.mono L.out.size));have i1:(0:Int)<xs.length:=by omega
     have i2:decide (0<xs.length)=true:=by simpa using s
     have k:((xs.length - 1:Nat):Int)=(xs.length:Int) - 1:=by omega
     have ak:((xs.length:Int) - 1).toNat=xs.length - 1:=by omega
     have i3:(0:Int)<=xs.length - 1:=by omega
     have i4:(1:Int)<=xs.length:=by omega
     have i5:(xs.length:Int) - 1<(xs.length:Int):=by omega
     have HC:=hid k;clear p d g D hc P k;go_wp2_with fail;have Q:=(E.out.set_ 0 (.int .i64 i)).set_ 1 (.int .i64 j);refine bodyPost_ret (v:=.tuple #[.agg #[.int .i64 i,.int .i64 j],.bool true]) ?_ rfl (.inl ⟨i,j,o.out,rfl,(G.out.setCell (lr_ _) _).setCell (lr_ _) _⟩);have N:=Q.cell 0;have M:=Q.cell 1;simp only[Array.getElem?_setIfInBounds] at N M;simp[results,results99,go_sem,N,M]
   | none =>
     rw[q] at a;have C:xs=[]:=List.getLast?_eq_none_iff.1 a.symm;have o:Hid (O8 c.data.toList t r=O8 c.data.toList t (i+1)):=hid (by rw[J.out];exact A1m (by rw[m.out];exact hlt) q);have i2:decide (0<xs.length)=false:=by rw[C];simp
     have au:=hid C;clear q J a C;go_wp2_with fail;refine Y.out.mono ?_;rintro e H⟨A,cp,rfl,p,d⟩;have E:=hid (F.out.kept d);have G:=hid (L.out.trans (d.mono L.out.size));clear p d;go_wp2_with fail;go_roundw
     case rel=>exact⟨i+1,by omega,by omega,by go_num,o,G,E⟩
     case measure=>simp[intOf];omega
  .have hd:decide (i<=c.size)=false:=by simpa using hlt
   have o:Hid (O8 c.data.toList t r=none):=hid (by rw[J.out];exact A4F (by rw[m.out];omega));have s0:wr.cell? ⟨w.heap.size,0,none⟩=some (.int .i64 0):=F.out.cell 0;have s1:wr.cell? ⟨w.heap.size,1,none⟩=some (.int .i64 0):=F.out.cell 1;have z0:wr.frozen? ⟨w.heap.size,0,none⟩=false:=F.out.frozen 0;have z1:wr.frozen? ⟨w.heap.size,1,none⟩=false:=F.out.frozen 1;clear hlt J;go_wp2_with fail;have Q:=(F.out.set_ 0 (.int .i64 0)).set_ 1 (.int .i64 0);refine bodyPost_ret (v:=.tuple #[.agg #[.int .i64 0,.int .i64 0],.bool false]) ?_ rfl (.inr ⟨o.out,rfl,(L.out.setCell (lr_ _) _).setCell (lr_ _) _⟩);have N:=Q.cell 0;have M:=Q.cell 1;simp only[Array.getElem?_setIfInBounds] at N M;simp[results,results99,go_sem,N,M]
def B6M(t:Rx)(s:List U_)(w:W_)(e:Ending)(w':W_):Prop :=
 ∃(A:Option Addr)(cap:Nat),e=.returned (.slice A (Y0 s t 0).length cap)/\Rd w' 2 (.slice A (Y0 s t 0).length cap) (Z3 (Y0 s t 0))/\Below w.heap.size w w'
theorem B47{i n:Nat}(h:i=n):((i:Int)==(n:Int))=true:=by subst h;simp
theorem B48{i n:Nat}(h:i≠n):((i:Int)==(n:Int))=false:=by simp;omega
def A4r(t:Rx)(s:List U_)(w:W_)(e:Ending)(w':W_):Prop :=
 ∃(A:Option Addr)(cap:Nat),e=.returned (.slice A (Y0 s t 0).length cap)/\w'.ownsRow w.heap.size 68 2 (.slice A (Y0 s t 0).length cap) (Y0 s t 0).length (Z3 (Y0 s t 0))/\Below w.heap.size w w'
theorem A9g(l:List Nd)(t:Rx)(hl:l=A0 t)(Q:∀n∈l,P5 n.cls)(C:l.length<=60)(b E cap:Nat)(d:B_)(hx:d.size<=400)(w:W_)(hr:q7 w (.slice (some ⟨b,E,none⟩) l.length cap) l):
 Calls prog 64 #[.slice (some ⟨b,E,none⟩) l.length cap,.string d] w (A4r t d.data.toList w):=by
 obtain⟨i0,ai,ag,af,ae⟩:=info_parts A6x;have al:=hid λf hf W h=>B6K l t hl Q C b E cap d hx f hf W h
 have HR:=hid hr;have S:Hid (d.data.toList.length=d.size):=hid (by simp);have M:=hid (V5 d.data.toList t);clear hl Q C hr;go_enter func64,ntmps64;go_wp2_with fail
 go_loopw [5,6] (λv5 v6 wr=>∃(at_:Nat)(k:List (Nat×Nat)),at_<=d.size+1/\k.length<=at_/\v6=.int .i64 at_/\Hid (A20 (X9 d.data.toList t) d.data.toList.length 0 k at_)/\Hid (wr.ownsRow w.heap.size 68 2 v5 k.length (Z3 k))/\Hid (Below w.heap.size w wr)) (λ_ i _=>d.size+1 - (intOf i).toNat)
 case atStart=>exact⟨0,[],by omega,by simp,rfl,hid (.nil 0),hid (World.ownsRow_nil _ _ _ _),hid br_⟩
 case round =>
  obtain⟨at_,k,hat,ax,rfl,HC,HO,HB⟩:=hrel;by_cases hlt:at_<=d.size
  .have hd:decide (at_<=d.size)=true:=by simpa using hlt
   have J:=hid (al.out at_ (by omega) wr (HR.out.below HB.out));have r:=HB.out.size;go_wp2_with fail;refine J.out.mono ?_;rintro e D (⟨x,y,o,rfl,j⟩|⟨o,rfl,j⟩)
   .have ah:=j.size
    have P:=hid ((HB.out.trans (j.mono r)).alloc (by omega) (.cells #[.int .i64 x,.int .i64 y] 68));have X:=hid ((o4 HO.out j).alloc (.cells #[.int .i64 x,.int .i64 y] 68));have Z:=hid (HC.out.snoc o);have z:=n9 M.out o;rw[S.out] at z;have Y:=hid ((J0.new D 68 #[.int .i64 x,.int .i64 y]).alloc (.cells #[.int .i64 x,.int .i64 y] 68));have T:Hid (∀g,u5.ownBlock=some g->g<D.heap.size):=hid (λg hg=>by have:=(HO.out.lt g hg).2;omega);clear o j J;have R:at_<X5 x y:=z.1;have B:X5 x y<=d.size+1:=z.2.1;have av:y<=d.size:=z.2.2.2;clear z
    go_wp2_with (at_builtin;refine wpList_append_own _ rfl (.tmp 22) (.tmp 24) _ rfl w.heap.size 68 i0 _ 2 16 underlying106 ai ag af ae rfl (by omega) _ k.length (Z3 k) rfl (X.out.alloc _) ⟨D.heap.size+1,0,none⟩ 1 1 [.int .i64 x,.int .i64 y] rfl rfl (A7S _ _ _ _ _ (by simp)) (by intro u hu;simp at hu;rcases hu with rfl | rfl <;> rfl) (by unfold maxLen;omega) (by omega) (by simp;omega) ?_)
    intro v' w' s F _;have G:=(F.block D.heap.size (by simp;omega) (λe=>by have:=T.out _ e.symm;omega)).trans Y.out;have V:Hid (w'.ownsRow w.heap.size 68 2 v' (k++[(x,y)]).length (Z3 (k++[(x,y)]))):=hid (by rw[List.length_append,A2v];exact s);have aa:=hid (J4 (P.out.alloc (by simp;omega) _) (lr_ _) (by simp;omega) (X.out.alloc _) F);have b0:w'.cell? ⟨D.heap.size,0,none⟩=some (.int .i64 x):=J0.cell G 0;have b1:w'.cell? ⟨D.heap.size,1,none⟩=some (.int .i64 y):=J0.cell G 1;clear s F G Y T;by_cases exy:x=y
    .have aj:((x:Int)==(y:Int))=true:=B47 exy
     have m:X5 x y=y+1:=by unfold X5;rw[if_pos exy.symm]
     have O:=hid m;rw[m] at R B;clear exy m;go_wp2_with fail;go_roundw
     case rel=>exact⟨y+1,k++[(x,y)],B,by simp;omega,by go_num,hid (by have:=Z.out;rw[O.out] at this;exact this),V,aa⟩
     case measure=>simp[intOf];omega
    .have aj:((x:Int)==(y:Int))=false:=B48 exy
     have m:X5 x y=y:=by unfold X5;rw[if_neg (λe=>exy e.symm)]
     have O:=hid m;rw[m] at R B;clear exy m;go_wp2_with fail;go_roundw
     case rel=>exact⟨y,k++[(x,y)],B,by simp;omega,by go_num,hid (by have:=Z.out;rw[O.out] at this;exact this),V,aa⟩
     case measure=>simp[intOf];omega
   .have ah:=j.size
    have a:Y0 d.data.toList t 0=k:=by
     have:=HC.out.all M.out;rw[A0S o,List.append_nil] at this;exact this
    have H:=hid a;have P:Hid (Below w.heap.size w (D.alloc (.cells #[.int .i64 0,.int .i64 0] 68))):=hid ((HB.out.trans (j.mono r)).alloc (by omega) _);have c:=(o4 HO.out j).alloc (.cells #[.int .i64 0,.int .i64 0] 68);obtain⟨VA,vn,p,rfl,_,_,q,_⟩:=Rd.of_own c;rw[S8] at q;obtain rfl:vn=k.length:=by omega
    have A:=hid c;clear o j J a c q;go_wp2_with fail;go_ret;unfold A4r;rw[H.out];exact⟨VA,p,rfl,A.out,P.out⟩
  .have hd:decide (at_<=d.size)=false:=by simpa using hlt
   have a:Y0 d.data.toList t 0=k:=by
    have:=HC.out.all M.out;rw[A2I (L:=X9 d.data.toList t) (N:=d.data.toList.length) (at_:=at_) (by rw[S.out];omega),List.append_nil] at this;exact this
   have H:=hid a;have c:=HO.out;obtain⟨VA,vn,p,rfl,_,_,q,_⟩:=Rd.of_own c;rw[S8] at q;obtain rfl:vn=k.length:=by omega
   have A:=hid c;clear a c q hlt;go_wp2_with fail;go_ret;unfold A4r;rw[H.out];exact⟨VA,p,rfl,A.out,HB.out⟩
theorem B76(l:List Nd)(t:Rx)(i:l=A0 t)(f:∀n∈l,P5 n.cls)(c:l.length<=60)(b a cap:Nat)(d:B_)(g:d.size<=400)(w:W_)(h:q7 w (.slice (some ⟨b,a,none⟩) l.length cap) l):
 Calls prog 64 #[.slice (some ⟨b,a,none⟩) l.length cap,.string d] w (B6M t d.data.toList w) :=
 (A9g l t i f c b a cap d g w h).mono λe w' j=>by
   obtain⟨A,p,o,m,k⟩:=j;exact⟨A,p,o,Rd.of_own m,k⟩
def B3w(a:List B_)(w:W_)(e:Ending)(w':W_):Prop :=
 ∃(g cap:Nat),e=.returned (.slice (some ⟨g,0,none⟩) a.length cap)/\Rd1 w' (.slice (some ⟨g,0,none⟩) a.length cap) (T0 a)/\Below w.heap.size w w'
theorem B1G(l:List Nd)(t:Rx)(hl:l=A0 t)(T:∀n∈l,P5 n.cls)(z:l.length<=60)(b D cap:Nat)(c:B_)(hx:c.size<=400)(w:W_)(hr:q7 w (.slice (some ⟨b,D,none⟩) l.length cap) l):
 Calls prog 65 #[.slice (some ⟨b,D,none⟩) l.length cap,.string c] w (B3w (J8 c (Y0 c.data.toList t 0)) w):=by
 obtain⟨i0,Y,Q,P,O⟩:=info_parts A1L;have j:=hid (B76 l t hl T z b D cap c hx w hr);have H:c.data.toList.length=c.size:=by simp
 have E:=A68 (V5 c.data.toList t) 0;have X:=A1R (V5 c.data.toList t) 0;rw[H] at E X;unfold B6M at j;unfold Y0 at j ⊢;rw[H] at j ⊢;generalize A1w (X9 c.data.toList t) c.size 0=sp at *;have al:=hid E;have aD:sp.length<=401:=by omega
 clear hl T z hr E H X;go_enter func65,ntmps65;go_wp2_with fail;refine j.out.mono ?_;rintro e m⟨A,ax,rfl,y,aa⟩;have af:=hid aa;obtain⟨A',B,hv,aG,aw,V⟩:=Y9 y;injection hv with e1 _ e2
 subst e1;subst e2;have am:=hid V;clear y aa V j;go_wp2_with fail
 go_loopw [6,7,8] (λv6 v7 v8 wr=>∃(k f:Nat),k<=sp.length/\v8=.int .i64 k/\v7=.int .i64 f/\f<=c.size/\Hid (f=A3Z 0 (sp.take k))/\Hid (wr.ownsRow m.heap.size 9 1 v6 k (T0 (A0j c 0 (sp.take k))))/\Hid (Below m.heap.size m wr)) (λ_ _ i _=>sp.length - (intOf i).toNat)
 case atStart=>exact⟨0,0,by omega,rfl,rfl,by omega,hid rfl,hid (World.ownsRow_nil _ _ _ _),hid br_⟩
 case round =>
  obtain⟨k,f,hk,rfl,rfl,hf,HF,HO,HB⟩:=hrel;have S:=HB.out.size;by_cases hlt:k<sp.length
  .have d1:decide (k<sp.length)=true:=by simpa using hlt
   obtain⟨bs,os,rfl,Z,F⟩:=am.out (by omega);have N:sp[k]?=some (sp[k]'hlt):=List.getElem?_eq_getElem hlt;generalize sp[k]'hlt=q at N;obtain⟨a,C⟩:=q;obtain⟨g0,g1⟩:=F wr (λo=>HB.out.cell (p:=⟨bs,o,none⟩) Z) k a C N;have ap:Hid (∀W,Below m.heap.size m W->W.cell? ⟨bs,os+k*2+1,none⟩=some (.int .i64 C)):=hid (λW h=>(F W (λo=>h.cell (p:=⟨bs,o,none⟩) Z) k a C N).2)
   have ai:f<=a/\a<=C/\C<=c.size:=by
    have h1:=al.out;have h2:=A8J N;rw[h2] at h1;rw[HF.out];exact h1.at_
   obtain⟨av,aH,aj⟩:=ai;have aF:(0:Int)<=k:=by omega
   have aE:(k:Int)<sp.length:=by omega
   have HT:Hid (sp.take (k+1)=sp.take k++[(a,C)]):=hid (X3 N);have ao:Hid (C=A3Z 0 (sp.take (k+1))):=hid (by rw[HT.out,A5Q]);have HX:Hid (T0 (A0j c 0 (sp.take (k+1)))=T0 (A0j c 0 (sp.take k))++[.string (c.extract f a)]):=hid (by rw[HT.out,A61,R8,←HF.out]);have i1:(f:Int)<=a:=by omega
   have i2:(a:Int)<=c.size:=by omega
   clear N F;generalize T0 (A0j c 0 (sp.take k))=xs at HO HX
   go_wp2_with (at_builtin;refine wpList_append_own _ rfl (.tmp 18) (.tmp 27) _ rfl m.heap.size 9 i0 _ 1 16 underlying94 Y Q P O rfl (by omega) _ k xs rfl (HO.out.alloc _) ⟨wr.heap.size,0,none⟩ 1 1 [.string (c.extract f a)] rfl rfl (L9 _ _ _ _ rfl) (by intro u R;simp at R;subst R;rfl) (by unfold maxLen;omega) (by omega) (by simp;omega) ?_)
   intro v' w' d r _;have s:Below m.heap.size m (wr.alloc (.cells #[.string (c.extract f a)] 9)):=HB.out.alloc S _;have G:=J4 s (lr_ _) (by simp;omega) (HO.out.alloc _) r;have M:=hid G;have J:Hid (w'.ownsRow m.heap.size 9 1 v' (k+1) (T0 (A0j c 0 (sp.take (k+1))))):=hid (by rw[HX.out];exact d);have g2:=ap.out w' G;clear d r s G g0 g1;go_wp2_with fail;go_roundw
   case rel=>exact⟨k+1,C,by omega,by go_num,rfl,aj,ao,J,M⟩
   case measure=>simp[intOf];omega
  .obtain rfl:k=sp.length:=by omega
   have HX:Hid (T0 (J8 c sp)=T0 (A0j c 0 sp)++[.string (c.extract f c.size)]):=hid (by
    have h1:=HF.out;rw[List.take_length] at h1;rw[J8,R8,←h1])
   have L:Hid (wr.ownsRow m.heap.size 9 1 u6 sp.length (T0 (A0j c 0 sp))):=hid (by have:=HO.out;rwa[List.take_length] at this);have ad:=hid (A0t c sp);have i1:(f:Int)<=c.size:=by omega
   clear HO HF;generalize T0 (A0j c 0 sp)=xs at L HX
   go_wp2_with (at_builtin;refine wpList_append_lies _ rfl (.tmp 34) (.tmp 38) _ rfl m.heap.size 9 i0 _ 1 16 underlying94 Y Q P O rfl (by omega) _ sp.length xs rfl (L.out.alloc _) ⟨wr.heap.size,0,none⟩ 1 1 [.string (c.extract f c.size)] rfl rfl (L9 _ _ _ _ rfl) (by intro u R;simp at R;subst R;rfl) (by omega) (by unfold maxLen;omega) (by omega) (by simp;omega) (wr.heap.size+1) (by simp) ?_)
   intro g B w' d r hat' hlt';have s:Below m.heap.size m (wr.alloc (.cells #[.string (c.extract f c.size)] 9)):=HB.out.alloc S _;have M:=hid (af.out.trans ((J4 s (lr_ _) (by simp;omega) (L.out.alloc _) r).mono af.out.size));have J:=hid (Rd.of_own d);clear d r hat' hlt' s;go_wp2_with fail;go_ret;refine⟨g,B,by rw[ad.out];rfl,?_,M.out⟩;rw[ad.out,HX.out];exact J.out
def A4Q(a bx:B_)(b:List (Nat×Nat)):List U_:=Go.Lib.join ((J8 a b).map (·.data.toList)) bx.data.toList
def B14(r:List U_)(n:Int)(w:W_)(e:Ending)(w':W_):Prop:=e=.returned (.tuple #[.string ⟨r.toArray⟩,.int .i64 n])/\Below w.heap.size w w'
def q9(a bx:B_)(b:List (Nat×Nat)):List U_×Int:=if 400<bx.size then ([],3) else if 400<(A4Q a bx b).length then ([],3) else (A4Q a bx b,0)
theorem B6G(l:List Nd)(t:Rx)(hl:l=A0 t)(C:∀n∈l,P5 n.cls)(p:l.length<=60)(b r cap:Nat)(a bx:B_)(hx:a.size<=400)(au:bx.size<=9223372036854775807)(w:W_)(hr:q7 w (.slice (some ⟨b,r,none⟩) l.length cap) l):
 Calls prog 41 #[.slice (some ⟨b,r,none⟩) l.length cap,.string a,.string bx] w (B14 (q9 a bx (Y0 a.data.toList t 0)).1 (q9 a bx (Y0 a.data.toList t 0)).2 w):=by
 unfold q9;have A:=hid (B1G l t hl C p b r cap a hx w hr)
 have ap:(Y0 a.data.toList t 0).length<=401:=by
  have:=A1R (V5 a.data.toList t) 0;have F:a.data.toList.length=a.size:=by simp
  rw[F] at this;unfold Y0;rw[F];omega
 clear hl C p hr;by_cases hb:400<bx.size
 .rw[if_pos hb]
  have d1:=dt_ ((400:Int)<bx.size);clear A hb;go_enter func41,ntmps41;go_wp2_with fail;go_ret2;exact⟨rfl,br_⟩
 .rw[if_neg hb]
  have d1:=df_ ((400:Int)<bx.size);have B:=A3U a (Y0 a.data.toList t 0);have T:=A0t a (Y0 a.data.toList t 0);unfold A4Q;generalize J8 a (Y0 a.data.toList t 0)=pc at *;have ag:pc.length<=402:=by omega
  have z:Hid (∀s∈pc,s.size<=400):=hid (λs S=>by have:=B s S;omega)
  have HJ:Hid (∀k,(jl pc bx k).length<=402*800):=hid (λk=>by
   have G:=A4m bx.data.toList 400 ((pc.take k).map (·.data.toList)) (λx P=>by
    obtain⟨s,S,rfl⟩:=List.mem_map.1 P;have:=z.out s (List.mem_of_mem_take S);simp;omega)
   rw[List.length_map,show bx.data.toList.length=bx.size by simp] at G;have N:(pc.take k).length*(400+bx.size)<=402*800:=Nat.mul_le_mul (by simp;omega) (by omega);unfold jl;omega)
  have q:Hid (Go.Lib.join (pc.map (·.data.toList)) bx.data.toList=jl pc bx pc.length):=hid (by unfold jl;rw[List.take_length]);have Z:bx.size<=400:=by omega
  rw[q.out];obtain⟨R,hR⟩:∃R:List U_×Int,R=(if 400<(jl pc bx pc.length).length then ([],3) else (jl pc bx pc.length,0)):=⟨_,rfl⟩
  rw[←hR];have H:=hid hR;clear B T hb q hR;go_enter func41,ntmps41;go_wp2_with fail;refine A.out.mono ?_;rintro e w1⟨g,aj,rfl,m,E⟩;have M:=hid E;obtain⟨A',ak,hv,ar,ai,D⟩:=A0Y m;injection hv with e1 _ e2
  subst e1;subst e2;have L:=hid D;clear m E D A;go_wp2_with fail
  go_loop [9,10] (λv9 v10=>∃(k n:Nat),k<=pc.length/\v10=.int .i64 k/\v9=.int .i64 n/\Hid (n=(jl pc bx k).length)) (λ_ i=>pc.length - (intOf i).toNat)
  case atStart=>exact⟨0,0,by omega,rfl,rfl,hid rfl⟩
  case round =>
   obtain⟨k,n,hk,rfl,rfl,J⟩:=hrel;have hn:n<=402*800:=by rw[J.out];exact HJ.out k
   by_cases hlt:k<pc.length
   .have d2:decide (k<pc.length)=true:=by simpa using hlt
    obtain⟨bs,os,c,Y,h⟩:=L.out (by omega);injection c with c
    injection c with G N
    subst G;subst N;have f:pc[k]?=some (pc[k]'hlt):=List.getElem?_eq_getElem hlt;generalize pc[k]'hlt=s at f;have g0:=h w1 (λ_=>rfl) k s f;rw[Nat.zero_add] at g0;have Q:=z.out s (List.mem_of_getElem? f);have X:(0:Int)<=k:=by omega
    have V:(k:Int)<pc.length:=by omega
    have j:=hid (B1i (bx:=bx) f);clear f h;by_cases k0:k=0
    .have d3:=df_ (0<k)
     have d:Hid (n+s.size=(jl pc bx (k+1)).length):=hid (by rw[j.out,if_pos k0,J.out,k0,B1h];simp);clear k0;go_wp2_with fail
     go_round
     case rel=>exact⟨k+1,n+s.size,by omega,by go_num,by go_num,d⟩
     case measure=>simp[intOf];omega
    .have d3:=dt_ (0<k)
     have d:Hid (n+s.size+bx.size=(jl pc bx (k+1)).length):=hid (by rw[j.out,if_neg k0,J.out];simp;omega);clear k0;go_wp2_with fail
     go_round
     case rel=>exact⟨k+1,n+s.size+bx.size,by omega,by go_num,by go_num,d⟩
     case measure=>simp[intOf];omega
   .obtain rfl:k=pc.length:=by omega
    by_cases hbig:400<(jl pc bx pc.length).length
    .have y:Hid (R=([],3)):=hid (by rw[H.out,if_pos hbig])
     have d4:decide ((400:Int)<n)=true:=by rw[J.out];simp;omega
     clear hbig;go_wp2_with fail;go_ret2;rw[y.out];exact⟨rfl,M.out⟩
    .have y:Hid (R=(jl pc bx pc.length,0)):=hid (by rw[H.out,if_neg hbig])
     have d4:decide ((400:Int)<n)=false:=by rw[J.out];simp;omega
     clear hbig;go_wp2_with fail
     go_loop [11,12] (λv11 v12=>∃(k:Nat)(o:B_),k<=pc.length/\v12=.int .i64 k/\v11=.string o/\Hid (o.data.toList=jl pc bx k)) (λ_ i=>pc.length - (intOf i).toNat)
     case atStart=>exact⟨0,⟨#[]⟩,by omega,rfl,rfl,hid rfl⟩
     case round =>
      obtain⟨k,o,hk,rfl,rfl,O⟩:=hrel;have ho:o.size<=402*800:=by have:=HJ.out k;rw[←O.out] at this;simpa using this
      by_cases hlt2:k<pc.length
      .have d2:decide (k<pc.length)=true:=by simpa using hlt2
       obtain⟨bs,os,c,Y,h⟩:=L.out (by omega);injection c with c
       injection c with G N
       subst G;subst N;have f:pc[k]?=some (pc[k]'hlt2):=List.getElem?_eq_getElem hlt2;generalize pc[k]'hlt2=s at f;have g0:=h w1 (λ_=>rfl) k s f;rw[Nat.zero_add] at g0;have Q:=z.out s (List.mem_of_getElem? f);have X:(0:Int)<=k:=by omega
       have V:(k:Int)<pc.length:=by omega
       have j:=hid (B1i (bx:=bx) f);clear f h;by_cases k0:k=0
       .have d3:=df_ (0<k)
        have d:Hid ((o++s).data.toList=jl pc bx (k+1)):=hid (by rw[j.out,if_pos k0];have:=O.out;rw[k0,B1h] at this;simp[ByteArray.data_append,this]);clear k0;go_wp2_with fail
        go_round
        case rel=>exact⟨k+1,_,by omega,by go_num,rfl,d⟩
        case measure=>simp[intOf];omega
       .have d3:=dt_ (0<k)
        have d:Hid ((o++bx++s).data.toList=jl pc bx (k+1)):=hid (by rw[j.out,if_neg k0,←O.out];simp[ByteArray.data_append]);clear k0;go_wp2_with fail
        go_round
        case rel=>exact⟨k+1,_,by omega,by go_num,rfl,d⟩
        case measure=>simp[intOf];omega
      .obtain rfl:k=pc.length:=by omega
       have ad:Hid (o=⟨(jl pc bx pc.length).toArray⟩):=hid (by rw[←O.out]);clear hlt2;go_wp2_with fail;go_ret2;rw[y.out];exact⟨by rw[←ad.out];rfl,M.out⟩
