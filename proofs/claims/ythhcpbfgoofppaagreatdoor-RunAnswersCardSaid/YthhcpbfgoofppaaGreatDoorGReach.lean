import Derived.Test.YthhcpbfgoofppaaGreatDoorGRex
import Derived.Laws.CopyOwn
import Derived.StillTailTactics
import Derived.Deep.RegionWith
set_option linter.unusedVariables false
set_option linter.unusedSimpArgs false
open Wf
set_option maxRecDepth 100000
set_option maxHeartbeats 16000000
open Go.Lib (hid)
open Go.Proofs.Tryz hiding parts
namespace Go.Proofs.YthhcpbfgoofppaaGreatDoor
open Go.RowKit Wf
def RB(w:W_)(g N:Nat)(D:Nat->Bool):Prop:=∃cs:Array V_,J0 w g 4 cs/\cs.size=N/\∀k,k<N->cs[k]?=some (.bool (D k))
section
variable {w w':W_} {g N:Nat} {D D':Nat->Bool}
theorem RB.lt(h:RB w g N D):g<w.heap.size:=by
 obtain⟨cs,b,_⟩:=h;exact b.lt
theorem RB.below(h:RB w g N D)(c:Below w.heap.size w w'):RB w' g N D:=by
 obtain⟨cs,b,d⟩:=h;exact⟨cs,b.kept c,d⟩
theorem RB.as(h:RB w g N D)(d:∀k,k<N->D k=D' k):RB w g N D':=by
 obtain⟨cs,i,c,f⟩:=h;exact⟨cs,i,c,λk b=>by rw[f k b,d k b]⟩
theorem RB.cell(h:RB w g N D){k:Nat}(b:k<N):w.cell? ⟨g,k,none⟩=some (.bool (D k)):=by
 obtain⟨cs,d,_,c⟩:=h;rw[d.cell];exact c k b
theorem RB.frozen(h:RB w g N D)(k:Nat):w.frozen? ⟨g,k,none⟩=false:=by
 obtain⟨cs,b,_⟩:=h;exact b.frozen k
theorem RB.set_(h:RB w g N D)(k:Nat)(b:Bool):RB (w.setCell ⟨g,k,none⟩ (.bool b)) g N (A1v D k b):=by
 obtain⟨cs,i,c,f⟩:=h;refine⟨_,i.set_ k (.bool b),by simpa using c,λj d=>?_⟩;rw[Array.getElem?_setIfInBounds];unfold A1v;by_cases e:k=j
 .subst e
  rw[if_pos rfl,if_pos (by omega),if_pos rfl]
 .rw[if_neg e,if_neg (λh=>e h.symm)]
  exact f j d
theorem RB.new(w:W_)(N:Nat):RB (w.alloc (.cells (A0r N (.bool false)) 4)) w.heap.size N (λ_=>false) :=
 ⟨_,J0.new _ _ _,b9 _ _,λ_ b=>j7 _ _ _ b⟩
theorem RB.alloc(h:RB w g N D)(o:Obj):RB (w.alloc o) g N D:=h.below ba_
end
theorem RB.kept{w w':W_}{g N:Nat}{D:Nat->Bool}{row:Option Nat}(h:RB w g N D)(d:w.grownBy w' row)(b:some g≠row):RB w' g N D:=by
 obtain⟨cs,c,f⟩:=h;exact⟨cs,(d.block g c.lt b).trans c,f⟩
theorem RB.far{w:W_}{g N c k:Nat}{D:Nat->Bool}(h:RB w g N D)(b:g≠c)(v:V_):RB (w.setCell ⟨c,k,none⟩ v) g N D:=by
 obtain⟨cs,d,f⟩:=h;exact⟨cs,d.far b v,f⟩
def C0I(N:Nat)(P:(Nat->Bool)->Prop)(w:W_)(e:Ending)(w':W_):Prop :=
 ∃(g:Nat)(D:Nat->Bool),e=.returned (.slice (some ⟨g,0,none⟩) N N)/\RB w' g N D/\P D/\Below w.heap.size w w'
def B9a(N:Nat)(A B:Nat->Bool)(w:W_)(e:Ending)(w':W_):Prop :=
 ∃g:Nat,e=.returned (.slice (some ⟨g,0,none⟩) N N)/\RB w' g N (λj=>A j || B j)/\Below w.heap.size w w'
theorem A28(q p N:Nat)(R:N<=1000)(A B:Nat->Bool)(w:W_)(m:RB w q N A)(l:RB w p N B):
 Calls prog 192 #[.slice (some ⟨q,0,none⟩) N N,.slice (some ⟨p,0,none⟩) N N] w (B9a N A B w):=by
 have L:=hid m;have J:=hid l;have h:=λW=>B8 N (by omega) W
 have F:=m.lt;have C:=l.lt;clear m l;go_enter func192,ntmps192;go_wp2;clear h
 go_loopw [6] (λv4 wr=>∃k:Nat,k<=N/\v4=.int .i64 k/\Hid (RB wr w.heap.size N (λj=>decide (j<k)&&(A j || B j)))/\Hid (Below w.heap.size w wr)) (λi _=>N - (intOf i).toNat)
 case atStart=>exact⟨0,by omega,rfl,hid ((RB.new w N).as λj _=>by simp),hid ba_⟩
 case round =>
  obtain⟨k,O,rfl,c,b⟩:=hrel;by_cases hlt:k<N
  .have z:=(L.out.below b.out).cell hlt
   have t:=(J.out.below b.out).cell hlt;have M:=c.out.cell hlt;have H:=c.out.frozen k;have G:(k:Int)<N:=by omega
   obtain⟨x,f⟩:∃x,x=A k:=⟨_,rfl⟩
   obtain⟨y,d⟩:∃y,y=B k:=⟨_,rfl⟩
   rw[←f] at z;rw[←d] at t;have s:=hid f;have r:=hid d;clear f d
   have key:Hid (RB (wr.setCell ⟨w.heap.size,k,none⟩ (.bool (x || y))) w.heap.size N (λj=>decide (j<k+1)&&(A j || B j))):=hid ((c.out.set_ k _).as λj n=>by
    unfold A1v;by_cases e:j=k
    .subst e
     rw[if_pos rfl,s.out,r.out];simp
    .rw[if_neg e]
     have:decide (j<k+1)=decide (j<k):=by rw[decide_eq_decide];omega
     rw[this])
   clear s r;cases x <;> cases y
   all_goals
    go_wp2;go_roundw
    case rel=>exact⟨k+1,by omega,by go_num,key,hid (b.out.setCell (lr_ _) _)⟩
    case measure=>simp[intOf];omega
  .obtain rfl:k=N:=by omega
   go_wp2;go_ret;exact⟨_,rfl,c.out.as λj n=>by simp[n],b.out⟩
def Z2(l:List Nd)(b c cap:Nat)(s:B_)(u:Rx)(i:Nat):Prop:=∀(w:W_)(g:Nat) (D:Nat->Bool),q7 w (.slice (some ⟨b,c,none⟩) l.length cap) l->RB w g (s.size+1) D ->
 Calls prog 169 #[.slice (some ⟨b,c,none⟩) l.length cap,.int .i64 i,.string s,.slice (some ⟨g,0,none⟩) (s.size+1) (s.size+1)] w (C0I (s.size+1) (ToD (M4 s.data.toList u) (s.size+1) D) w)
theorem t7(l:List Nd)(b p cap:Nat)(s:B_)(hs:s.size<=400)(u:Rx)(i:Nat)(hR:Z2 l b p cap s u i)(w:W_)(g:Nat)(D:Nat->Bool)(hr:q7 w (.slice (some ⟨b,p,none⟩) l.length cap) l)(hg:RB w g (s.size+1) D):
 Calls prog 193 #[.slice (some ⟨b,p,none⟩) l.length cap,.int .i64 i,.string s,.slice (some ⟨g,0,none⟩) (s.size+1) (s.size+1)] w (C0I (s.size+1) (ToD (W6 (M4 s.data.toList u)) (s.size+1) D) w):=by
 have R:∀x y,M4 s.data.toList u x y->x<s.size+1->y<s.size+1:=λx y h hx=>by
  have:=(s7 s.data.toList u x y h (by simp;omega)).2;simp at this;omega
 have hN:s.size+1<=401:=by omega
 unfold Z2 at hR;clear hs;generalize s.size+1=N at *;have HR:=hid hR;have aj:=hid hr;have HG:=hid hg;have am:=hid R;clear hR hr hg R;go_enter func193,ntmps193;go_wp2_with fail
 go_loopg [3] (N+1) (λgk v3 wr=>∃(g:Nat)(c:Nat->Bool),v3=.slice (some ⟨g,0,none⟩) N N/\Hid (RB wr g N c)/\Hid (A4N (M4 s.data.toList u) N D c)/\Hid (Below w.heap.size w wr)/\Hid (N - A4I N c<gk))
 case atStart=>exact⟨g,D,rfl,HG,hid (A4N.start _ _ _),hid br_,hid (by omega)⟩
 case round =>
  obtain⟨g,c,rfl,t,hP,m,hM⟩:=hrel;go_wp2_with fail;refine(HR.out wr g c (aj.out.below m.out) t.out).mono ?_;rintro e w1⟨g1,F,rfl,O,J,r⟩;have Y:=hid O;have T:=hid J;have B:=hid (t.out.below (r.mono (lr_ _)));have C:=hid (m.out.trans (r.mono m.out.size));clear O J r t m;go_wp2_with fail;refine(A28 g g1 N (by omega) c F w1 B.out Y.out).mono ?_;rintro e w2⟨g2,rfl,M,q⟩;have X:=hid M;have V:=hid (B.out.below q);have Z:=hid (C.out.trans (q.mono C.out.size));clear M q B Y C;go_wp2_with fail
  go_loopw [10,11] (λv10 v11 wx=>∃(k:Nat)(x:Bool),k<=N/\v11=.int .i64 k/\v10=.bool x/\Hid (x=true↔∀j,j<k->(c j || F j)=c j)/\Hid (RB wx g2 N (λj=>c j || F j))/\Hid (RB wx g N c)/\Hid (Below w.heap.size w wx)) (λ_ i _=>N - (intOf i).toNat)
  case atStart=>exact⟨0,true,by omega,rfl,rfl,hid ⟨λ_ j G=>by omega,λ_=>rfl⟩,X,V,Z⟩
  case round =>
   clear X V Z;obtain⟨k,x,hk,rfl,rfl,H,f,t,m⟩:=hrel;by_cases hlt:k<N
   .have y1:=f.out.cell hlt
    have y2:=t.out.cell hlt;have ay:(k:Int)<N:=by omega
    have az:(0:Int)<=k:=by omega
    have hd:=M0 (Below.refl wr.heap.size wr) ;obtain⟨y,hy⟩:∃y,y=(c k || F k):=⟨_,rfl⟩
    obtain⟨z,hz⟩:∃z,z=c k:=⟨_,rfl⟩
    rw[←hy] at y1;rw[←hz] at y2
    have d:∀x',(x'=true↔x=true/\y=z)->Hid (x'=true↔∀j,j<k+1->(c j || F j)=c j):=λx' h=>hid (by
     rw[h,H.out];constructor
     .rintro⟨S,h2⟩ j G
      by_cases e:j=k
      .subst e;rw[←hy,←hz];exact h2
      .exact S j (by omega)
     .intro S
      exact⟨λj G=>S j (by omega),by rw[hy,hz];exact S k (by omega)⟩)
    have A:=hid d;clear d hy hz H;cases x with
    | false =>
      go_wp2_with fail;go_quiet (fail);go_wp2;go_roundw
      case rel=>exact⟨k+1,false,by omega,by go_num,rfl,A.out false (by simp),hid (f.out.below (hd _)),hid (t.out.below (hd _)),hid (M0 m.out _)⟩
      case measure=>simp[intOf];omega
    | true =>
      have HE:=hid (A.out (y==z) (by simp));clear A;cases y <;> cases z
      all_goals
       go_wp2_with fail;go_quiet (fail);go_wp2;go_roundw
       case rel=>exact⟨k+1,_,by omega,by go_num,rfl,HE.out,hid (f.out.below (hd _)),hid (t.out.below (hd _)),hid (M0 m.out _)⟩
       case measure=>simp[intOf];omega
   .obtain rfl:k=N:=by omega
    cases x with
    | true =>
      have n:=H.out.1 rfl;have aa:=hid n;clear n H;go_wp2;go_ret;exact⟨g2,_,rfl,f.out,A4N.done hP.out T.out am.out aa.out,m.out⟩
    | false =>
      have L:∃j,j<k/\(c j || F j)≠c j:=Classical.byContradiction λhn=>by
       have:=H.out.2 λj G=>Classical.byContradiction λh=>hn ⟨j,G,h⟩
       cases this
      have al:=hid L;have ak:=hid (A4N.step hP.out T.out);clear L H hP;go_wp2
      go_roundg (gk - 1)
      case measure=>have:=hM.out;omega
      case rel =>
       obtain⟨j,G,af⟩:=al.out;have S:=A4N.more G af;have h2:=B7h k (λj=>c j || F j);have h3:=hM.out;exact⟨g2,_,rfl,f,ak,m,hid (by omega)⟩
theorem A5B(w:W_)(N f:Nat)(x:Bool):RB (w.alloc (.cells ((A0r N (.bool false)).setIfInBounds f (.bool x)) 4)) w.heap.size N (A1v (λ_=>false) f x) :=
 ⟨_,J0.new _ _ _,by simp[b9],λk b=>by
   rw[Array.getElem?_setIfInBounds];unfold A1v;by_cases e:f=k
   .subst e;rw[if_pos rfl,if_pos (by rw[b9];exact b),if_pos rfl]
   .rw[if_neg e,j7 _ _ _ b,if_neg (λh=>e h.symm)]⟩
def A1E(N:Nat)(D:Nat->Bool):List V_:=(List.range N).map λj=>.bool (D j)
theorem A1D(N:Nat)(D:Nat->Bool):(A1E N D).length=N:=by simp[A1E]
theorem A6V{N:Nat}{D:Nat->Bool}{j:Nat}(h:j<N):(A1E N D)[j]?=some (.bool (D j)):=by simp[A1E,h]
theorem B2b(N:Nat)(D:Nat->Bool):∀v∈A1E N D,v.oneCell'=true:=by
 intro v b;simp[A1E] at b;obtain⟨j,_,rfl⟩:=b
 rfl
theorem B2c(N:Nat)(D:Nat->Bool):(A1E N D).length=Nat.min N N:=by rw[A1D];exact(Nat.min_self _).symm
theorem B2d(N:Nat)(D:Nat->Bool):0+(A1E N D).length<=(A0r N (.bool false)).size:=by rw[A1D,b9];omega
theorem RB.src{w:W_}{g N:Nat}{D:Nat->Bool}(h:RB w g N D):∀j v,(A1E N D)[j]?=some v->w.cell? ((⟨g,0,none⟩:Addr).add j)=some v:=by
 intro j v b;have c:j<N:=by have:=(List.getElem?_eq_some_iff.1 b).1;rw[A1D] at this;exact this
 rw[A6V c] at b;cases b;rw[Z5,Nat.zero_add];exact h.cell c
theorem RB.copied{w:W_}{H N:Nat}{D:Nat->Bool}{b:Array V_}(h:w.heap[H]?=some (.cells b 4 (0,0)))(d:b.size=N):RB (w.setRow H (A1E N D++b.toList.drop (A1E N D).length).toArray) H N D:=by
 have e:b.toList.drop (A1E N D).length=[]:=List.drop_eq_nil_of_le (by rw[A1D];simp;omega);rw[e];refine⟨_,setRow_heap w H b _ 4 _ h,by simp[A1D],λk c=>?_⟩;simp only[List.append_nil,List.getElem?_toArray];exact A6V c
def BE(w:W_)(g N:Nat)(D E:Nat->Bool)(c0 c1 c2 c3:Nat)(w':W_):Prop :=
 RB w' w.heap.size N E/\J0 w' (w.heap.size+1) 114 #[.int .i64 1,.int .u64 c0,.int .u64 c1,.int .u64 c2,.int .u64 c3]/\RB w' g N D/\Below w.heap.size w w'
section
variable {w w1 w2:W_} {g N:Nat} {D E:Nat->Bool} {c0 c1 c2 c3:Nat}
theorem BE.kept(h:BE w g N D E c0 c1 c2 c3 w1)(b:Below w1.heap.size w1 w2):BE w g N D E c0 c1 c2 c3 w2 :=
 ⟨h.1.below b,h.2.1.kept b,h.2.2.1.below b,h.2.2.2.trans (b.mono h.2.2.2.size)⟩
theorem BE.put(h:BE w g N D E c0 c1 c2 c3 w1)(b:g<w.heap.size)(k:Nat)(x:Bool):BE w g N D (A1v E k x) c0 c1 c2 c3 (w1.setCell ⟨w.heap.size,k,none⟩ (.bool x)) :=
 ⟨h.1.set_ k x,h.2.1.far (by simp) _,h.2.2.1.far (by omega) _,h.2.2.2.setCell (lr_ _) _⟩
theorem BE.cells(h:BE w g N D E c0 c1 c2 c3 w1):w1.cell? ⟨w.heap.size+1,1,none⟩=some (.int .u64 c0)/\w1.cell? ⟨w.heap.size+1,2,none⟩=some (.int .u64 c1)/\w1.cell? ⟨w.heap.size+1,3,none⟩=some (.int .u64 c2)/\w1.cell? ⟨w.heap.size+1,4,none⟩=some (.int .u64 c3):=⟨h.2.1.cell 1,h.2.1.cell 2,h.2.1.cell 3,h.2.1.cell 4⟩
end
def BEx(w:W_)(g N:Nat)(D E:Nat->Bool)(c0 c1 c2 c3 k:Nat)(r:Bool)(w':W_):Prop :=
 BE w g N D E c0 c1 c2 c3 w'\/∃w0,w'=w0.setCell ⟨w.heap.size,k,none⟩ (.bool r)/\BE w g N D E c0 c1 c2 c3 w0
structure A3x (p:Prop):Prop where
 out:p
section
variable {P:Program} {ops:Array Oper} {w:W_} {Q:Act->Prop} {a:Act} {o:Oper} {rest:List Oper}
theorem E8(h:∀K:Act->Prop,(∀a,A3x (wpStill P ops w Q rest a)->K a)->if Region.wanted o (yielded ops a.tmps) then o.still P a w K else K (a.put o.dst undef)):A3x (wpStill P ops w Q (o::rest) a) :=
 A3x.mk (wpStill_step λK c=>h K λa b=>c a b.out)
theorem d8(b:Region.wanted o (yielded ops a.tmps)=false)(h:A3x (wpStill P ops w Q rest (a.put o.dst undef))):A3x (wpStill P ops w Q (o::rest) a) :=
 A3x.mk (wpStill_step λK c=>by rw[if_neg (by rw[b];simp)];exact c _ h.out)
theorem B2R(h:Q a):A3x (wpStill P ops w Q [] a):=A3x.mk (wpStill_nil h)
theorem A97{b:Nat}{Q:Exit->Act->World->Prop}{l:List Oper}(n:Nat)(c:P.follows .mixedOrders=true)(d:Region.lexTailB .any l.toArray n=true)
 (h:A3x (wpStill P l.toArray { w with drawn:=w.drawn+1 } (λf=>wpList P l.toArray Q (l.drop n) f { w with drawn:=w.drawn+1 }) (l.take n) a)):(Code.region b l.toArray true).wp P Q a w :=
 wp_region_still_tail n c d h.out
end
theorem B5E(n:Nat)(h:n<256):IntKind.i64.wrap (n:Int)=(n:Int):=by
 unfold IntKind.wrap;simp[IntKind.signed,IntKind.bits];omega
theorem A9a(l:List Nd)(R:∀n∈l,m6 n)(r:∀n∈l,P5 n.cls)(y:l.length<=60)(b c cap:Nat)(s:B_)(hs:s.size<=400)(i:Nat)(hat:At l i (.empty)):Z2 l b c cap s (.empty) i:=by
 have HM:Hid (∀(w:W_),q7 w (.slice (some ⟨b,c,none⟩) l.length cap) l->∀k n,l[k]?=some n ->
  w.cell? ⟨b,c+k*5,none⟩=some (.int .i64 n.op)/\w.cell? ⟨b,c+k*5+1,none⟩=some (.int .u64 (n.cls.1:Int))/\w.cell? ⟨b,c+k*5+2,none⟩=some (.int .u64 (n.cls.2.1:Int)) /\
  w.cell? ⟨b,c+k*5+3,none⟩=some (.int .u64 (n.cls.2.2.1:Int))/\w.cell? ⟨b,c+k*5+4,none⟩=some (.int .u64 (n.cls.2.2.2:Int))):=hid (λw j k n C=>by
  obtain⟨A',A,F,z,m,d⟩:=j.open_;injection F with e1 _ e2
  obtain⟨b',p,J,_,hc⟩:=d (by have:=(List.getElem?_eq_some_iff.1 C).1;omega);rw[J] at e1;cases e1;exact hc w (λ_=>rfl) k n C)
 have L:Hid (∀(w:W_),q7 w (.slice (some ⟨b,c,none⟩) l.length cap) l->0<l.length->b<w.heap.size):=hid (λw j C=>by
  obtain⟨A',A,F,z,m,d⟩:=j.open_;injection F with e1 _ e2
  obtain⟨b',p,J,hb,_⟩:=d C;rw[J] at e1;cases e1;exact hb)
 have S:=hid (λ(i:Nat)(hi:i<=l.length) (w:W_) (j:q7 w (.slice (some ⟨b,c,none⟩) l.length cap) l)=>C8 l R y (some ⟨b,c,none⟩) cap l.length i w (by omega) hi j);have al:=hid r;have aj:=hid (show s.data.toList.length=s.size by simp);have T:=hid (λ(u:Rx)(i:Nat) (h:Z2 l b c cap s u i)=>t7 l b c cap s hs u i h);have B:Hid (∀(w:W_)(o M:Obj),Below w.heap.size w ((w.alloc o).alloc M)):=hid λw o M=>ba_.alloc (by simp) _
 have t:=λW=>B8 (s.size+1) (by omega) W
 have G:=t;rw[show((s.size+1:Nat):Int)=(s.size:Int)+1 by omega] at G;have q:=λf (hf:f<s.size+1)=>j7 (s.size+1) (.bool false) f hf
 have ak:=hid q;clear R r q
 .intro w g D j H
  obtain⟨q0,Z,Y,X,V⟩:=HM.out w j i _ hat.empty;have hlt:=hat.lt;have O:=G0 (.empty);have ac:(i:Int)<l.length:=by omega
  have ad:=H.lt;have ag:=L.out w j (by omega);have HR:=hid j;have HD:=hid H;dsimp only[zc] at q0 Z Y X V;have ae:=run_copy_row (P:=prog) ((w.alloc (.cells (A0r (s.size+1) (.bool false)) 4)).alloc (.cells #[.int .i64 2,.int .u64 0,.int .u64 0,.int .u64 0,.int .u64 0] 114)) 278 278 3 4 w.heap.size 0 (s.size+1) (s.size+1) ⟨g,0,none⟩ (s.size+1) (s.size+1) (A0r (s.size+1) (.bool false)) 4 (A1E (s.size+1) D) underlying278 (by kernel_rfl) ((J0.new w 4 (A0r (s.size+1) (.bool false))).alloc _) (B2c _ _) ((HD.out.below (B.out w _ _)).src) (B2d _ _) (B2b _ _);clear hat j H;go_enter func169,ntmps169;go_wp2;go_ret;exact⟨w.heap.size,D,rfl,RB.copied ((J0.new w 4 (A0r (s.size+1) (.bool false))).alloc _) (b9 _ _),B4K _ _ _,below_setRow (B.out w _ _) (lr_ _) _⟩
theorem B3r(l:List Nd)(X:∀n∈l,m6 n)(r:∀n∈l,P5 n.cls)(y:l.length<=60)(b c cap:Nat)(s:B_)(hs:s.size<=400)(i:Nat)(hat:At l i (.bgn)):Z2 l b c cap s (.bgn) i:=by
 have HM:Hid (∀(w:W_),q7 w (.slice (some ⟨b,c,none⟩) l.length cap) l->∀k n,l[k]?=some n ->
  w.cell? ⟨b,c+k*5,none⟩=some (.int .i64 n.op)/\w.cell? ⟨b,c+k*5+1,none⟩=some (.int .u64 (n.cls.1:Int))/\w.cell? ⟨b,c+k*5+2,none⟩=some (.int .u64 (n.cls.2.1:Int)) /\
  w.cell? ⟨b,c+k*5+3,none⟩=some (.int .u64 (n.cls.2.2.1:Int))/\w.cell? ⟨b,c+k*5+4,none⟩=some (.int .u64 (n.cls.2.2.2:Int))):=hid (λw j k n B=>by
  obtain⟨A',A,F,z,p,d⟩:=j.open_;injection F with e1 _ e2
  obtain⟨b',q,M,_,J⟩:=d (by have:=(List.getElem?_eq_some_iff.1 B).1;omega);rw[M] at e1;cases e1;exact J w (λ_=>rfl) k n B)
 have S:Hid (∀(w:W_),q7 w (.slice (some ⟨b,c,none⟩) l.length cap) l->0<l.length->b<w.heap.size):=hid (λw j B=>by
  obtain⟨A',A,F,z,p,d⟩:=j.open_;injection F with e1 _ e2
  obtain⟨b',q,M,hb,_⟩:=d B;rw[M] at e1;cases e1;exact hb)
 have Y:=hid (λ(i:Nat)(hi:i<=l.length) (w:W_) (j:q7 w (.slice (some ⟨b,c,none⟩) l.length cap) l)=>C8 l X y (some ⟨b,c,none⟩) cap l.length i w (by omega) hi j);have ap:=hid r;have ao:=hid (show s.data.toList.length=s.size by simp);have Z:=hid (λ(u:Rx)(i:Nat) (h:Z2 l b c cap s u i)=>t7 l b c cap s hs u i h);have R:Hid (∀(w:W_)(o T:Obj),Below w.heap.size w ((w.alloc o).alloc T)):=hid λw o T=>ba_.alloc (by simp) _
 have t:=λW=>B8 (s.size+1) (by omega) W
 have H:=t;rw[show((s.size+1:Nat):Int)=(s.size:Int)+1 by omega] at H;have m:=λf (hf:f<s.size+1)=>j7 (s.size+1) (.bool false) f hf
 have O:=hid m;clear X r m
 .intro w g D j L
  obtain⟨q0,q1,q2,q3,q4⟩:=HM.out w j i _ hat.bgn;have hlt:=hat.lt;have V:=G0 (.bgn);have ah:(i:Int)<l.length:=by omega
  have ai:=L.lt;have aj:=S.out w j (by omega);have HR:=hid j;have HD:=hid L;dsimp only[zc] at q0 q1 q2 q3 q4;have J:=HD.out.cell (k:=0) (by omega);have m:=O.out 0 (by omega);have af:(0:Int)<s.size+1:=by omega
  clear hat j L;obtain⟨x,C⟩:∃x,x=D 0:=⟨_,rfl⟩
  rw[←C] at J;have HX:=hid C;clear C;go_enter func169,ntmps169;go_wp2;go_ret;have G:=B8a s.data.toList (s.size+1) D;refine⟨w.heap.size,A1v (λ_=>false) 0 (D 0),rfl,by rw[←HX.out];exact(A5B w (s.size+1) 0 x).alloc _,?_,R.out w _ _⟩;exact G
theorem B3p(l:List Nd)(Y:∀n∈l,m6 n)(t:∀n∈l,P5 n.cls)(z:l.length<=60)(b c cap:Nat)(s:B_)(hs:s.size<=400)(i:Nat)(hat:At l i (.fin)):Z2 l b c cap s (.fin) i:=by
 have HM:Hid (∀(w:W_),q7 w (.slice (some ⟨b,c,none⟩) l.length cap) l->∀k n,l[k]?=some n ->
  w.cell? ⟨b,c+k*5,none⟩=some (.int .i64 n.op)/\w.cell? ⟨b,c+k*5+1,none⟩=some (.int .u64 (n.cls.1:Int))/\w.cell? ⟨b,c+k*5+2,none⟩=some (.int .u64 (n.cls.2.1:Int)) /\
  w.cell? ⟨b,c+k*5+3,none⟩=some (.int .u64 (n.cls.2.2.1:Int))/\w.cell? ⟨b,c+k*5+4,none⟩=some (.int .u64 (n.cls.2.2.2:Int))):=hid (λw j k n C=>by
  obtain⟨A',B,G,A,p,d⟩:=j.open_;injection G with e1 _ e2
  obtain⟨b',q,M,_,J⟩:=d (by have:=(List.getElem?_eq_some_iff.1 C).1;omega);rw[M] at e1;cases e1;exact J w (λ_=>rfl) k n C)
 have T:Hid (∀(w:W_),q7 w (.slice (some ⟨b,c,none⟩) l.length cap) l->0<l.length->b<w.heap.size):=hid (λw j C=>by
  obtain⟨A',B,G,A,p,d⟩:=j.open_;injection G with e1 _ e2
  obtain⟨b',q,M,hb,_⟩:=d C;rw[M] at e1;cases e1;exact hb)
 have Z:=hid (λ(i:Nat)(hi:i<=l.length) (w:W_) (j:q7 w (.slice (some ⟨b,c,none⟩) l.length cap) l)=>C8 l Y z (some ⟨b,c,none⟩) cap l.length i w (by omega) hi j);have ap:=hid t;have O:=hid (show s.data.toList.length=s.size by simp);have aa:=hid (λ(u:Rx)(i:Nat) (h:Z2 l b c cap s u i)=>t7 l b c cap s hs u i h);have S:Hid (∀(w:W_)(o V:Obj),Below w.heap.size w ((w.alloc o).alloc V)):=hid λw o V=>ba_.alloc (by simp) _
 have y:=λW=>B8 (s.size+1) (by omega) W
 have H:=y;rw[show((s.size+1:Nat):Int)=(s.size:Int)+1 by omega] at H;have m:=λf (hf:f<s.size+1)=>j7 (s.size+1) (.bool false) f hf
 have R:=hid m;clear Y t m
 .intro w g D j L
  obtain⟨q0,q1,q2,q3,q4⟩:=HM.out w j i _ hat.fin;have hlt:=hat.lt;have X:=G0 (.fin);have ai:(i:Int)<l.length:=by omega
  have aj:=L.lt;have ak:=T.out w j (by omega);have HR:=hid j;have HD:=hid L;dsimp only[zc] at q0 q1 q2 q3 q4;have J:=HD.out.cell (k:=s.size) (by omega);have m:=R.out s.size (by omega);have ag:(0:Int)<s.size+1:=by omega
  clear hat j L;obtain⟨x,F⟩:∃x,x=D s.size:=⟨_,rfl⟩
  rw[←F] at J;have HX:=hid F;clear F;go_enter func169,ntmps169;go_wp2;go_ret;have r:=B8Y s.data.toList D;refine⟨w.heap.size,A1v (λ_=>false) s.size (D s.size),rfl,by rw[←HX.out];exact(A5B w (s.size+1) s.size x).alloc _,?_,S.out w _ _⟩;rw[O.out] at r;exact r
theorem B1C(l:List Nd)(hg:∀n∈l,m6 n)(X:∀n∈l,P5 n.cls)(Z:l.length<=60)(b j cap:Nat)(s:B_)(hs:s.size<=400)(c:X4)(i:Nat)(hat:At l i (.byte c)):Z2 l b j cap s (.byte c) i:=by
 have HM:Hid (∀(w:W_),q7 w (.slice (some ⟨b,j,none⟩) l.length cap) l->∀k n,l[k]?=some n ->
  w.cell? ⟨b,j+k*5,none⟩=some (.int .i64 n.op)/\w.cell? ⟨b,j+k*5+1,none⟩=some (.int .u64 (n.cls.1:Int))/\w.cell? ⟨b,j+k*5+2,none⟩=some (.int .u64 (n.cls.2.1:Int)) /\
  w.cell? ⟨b,j+k*5+3,none⟩=some (.int .u64 (n.cls.2.2.1:Int))/\w.cell? ⟨b,j+k*5+4,none⟩=some (.int .u64 (n.cls.2.2.2:Int))):=hid (λw m k n hk=>by
  obtain⟨A',ac,hv,ab,J,p⟩:=m.open_;injection hv with e1 _ e2
  obtain⟨b',R,hA,_,hc⟩:=p (by have:=(List.getElem?_eq_some_iff.1 hk).1;omega);rw[hA] at e1;cases e1;exact hc w (λ_=>rfl) k n hk)
 have ay:Hid (∀(w:W_),q7 w (.slice (some ⟨b,j,none⟩) l.length cap) l->0<l.length->b<w.heap.size):=hid (λw m hk=>by
  obtain⟨A',ac,hv,ab,J,p⟩:=m.open_;injection hv with e1 _ e2
  obtain⟨b',R,hA,hb,_⟩:=p hk;rw[hA] at e1;cases e1;exact hb)
 have aI:=hid (λ(i:Nat)(hi:i<=l.length) (w:W_) (m:q7 w (.slice (some ⟨b,j,none⟩) l.length cap) l)=>C8 l hg Z (some ⟨b,j,none⟩) cap l.length i w (by omega) hi m);have av:=hid X;have ad:=hid (show s.data.toList.length=s.size by simp);have aJ:=hid (λ(u:Rx)(i:Nat) (h:Z2 l b j cap s u i)=>t7 l b j cap s hs u i h);have ae:Hid (∀(w:W_)(o o':Obj),Below w.heap.size w ((w.alloc o).alloc o')):=hid λw o o'=>ba_.alloc (by simp) _
 have C:=λW=>B8 (s.size+1) (by omega) W
 have Y:=C;rw[show((s.size+1:Nat):Int)=(s.size:Int)+1 by omega] at Y;have V:=λf (hf:f<s.size+1)=>j7 (s.size+1) (.bool false) f hf
 have aV:=hid V;clear hg X V
 .intro w g D m hD
  obtain⟨c0,c1,c2,c3⟩:=c;obtain⟨q0,q1,q2,q3,q4⟩:=HM.out w m i _ hat.byte;have hlt:=hat.lt;have aF:=G0 (.byte (c0,c1,c2,c3));have aN:(i:Int)<l.length:=by omega
  have q:=hD.lt;have aR:=ay.out w m (by omega);have HR:=hid m;have HD:=hid hD;dsimp only at q0 q1 q2 q3 q4;have G:=av.out _ (List.mem_of_getElem? hat.byte);have aw:=hid (λ(x:Nat)(S:x<256) (W:W_)=>A1s c0 c1 c2 c3 x W G S)
  have af:Hid (BE w g (s.size+1) D (A1u s.data.toList (c0,c1,c2,c3) D 0) c0 c1 c2 c3 ((w.alloc (.cells (A0r (s.size+1) (.bool false)) 4)).alloc (.cells #[.int .i64 1,.int .u64 c0,.int .u64 c1,.int .u64 c2,.int .u64 c3] 114))):=hid (by
   rw[B0w];refine⟨(RB.new w (s.size+1)).alloc _,?_,HD.out.below (ae.out w _ _),ae.out w _ _⟩;have h:=J0.new (w.alloc (.cells (A0r (s.size+1) (.bool false)) 4)) 114 #[.int .i64 1,.int .u64 c0,.int .u64 c1,.int .u64 c2,.int .u64 c3];rw[World.size_alloc] at h;exact h)
  clear hat m hD G;go_enter func169,ntmps169;go_wp2_with fail;clear q0 q1 q2 q3 q4 C Y
  go_loopw [11] (λv11 wx=>∃k:Nat,k<=s.size/\v11=.int .i64 k/\Hid (BE w g (s.size+1) D (A1u s.data.toList (c0,c1,c2,c3) D k) c0 c1 c2 c3 wx)) (λi _=>s.size - (intOf i).toNat)
  case atStart=>exact⟨0,by omega,rfl,af⟩
  case round =>
   clear af;obtain⟨k,hk,rfl,z⟩:=hrel;by_cases hlt:k<s.size
   .have t:s[k].toNat<256:=s[k].toNat_lt
    have T:s.data.toList[k]?=some s[k]:=by
     rw[List.getElem?_eq_getElem (by rw[ad.out];exact hlt)]
     rfl
    have L:=B0x (s:=s.data.toList) (c:=(c0,c1,c2,c3)) (D:=D) T;have y:=hid (aw.out s[k].toNat t);unfold A7A at y;obtain⟨x,S⟩:∃x,x=D k:=⟨_,rfl⟩
    have aj:=z.out.2.2.1.cell (k:=k) (by omega);obtain⟨y1,y2,y3,y4⟩:=z.out.cells;have aP:=z.out.1.cell (k:=k+1) (by omega);have aO:=z.out.1.frozen (k+1);have aL:w.heap.size+1<wr.heap.size:=z.out.2.1.lt;rw[←S] at aj L;have i1:(k:Int)<s.size:=by omega
    have i2:(k:Int)+1<(s.size:Int)+1:=by omega
    have i3:(k:Int)<s.size+1:=by omega
    have i4:(0:Int)<=k+1:=by omega
    have i5:(0:Int)<=k:=by omega
    have aK:IntKind.i64.wrap ((k:Int)+1)=(k:Int)+1:=IntWalk.i64_in _ (by omega);have B:=hid L;have HX:=hid S;clear L S T;generalize hEE:A1u s.data.toList (c0,c1,c2,c3) D k=E at *;clear hEE;cases x with
    | false =>
      have O:=hid B.out;rw[Bool.false_and] at O
      have HS:Hid (∀w',Hid (BEx w g (s.size+1) D E c0 c1 c2 c3 (k+1) false w')->(w'.cell? ⟨g,k,none⟩=some (.bool (D k))/\Hid (BEx w g (s.size+1) D E c0 c1 c2 c3 (k+1) false w'))):=hid (λw' h=>by
       rcases h.out with h1|⟨w0,rfl,h1⟩
       .exact⟨h1.2.2.1.cell (by omega),h⟩
       .exact⟨(h1.put q (k+1) false).2.2.1.cell (by omega),h⟩)
      rw[←HX.out] at HS;have M:Hid (A1u s.data.toList (c0,c1,c2,c3) D (k+1)=A1v E (k+1) false):=hid (by rw[O.out]);have A:Hid (BE w g (s.size+1) D E c0 c1 c2 c3 wr.drew):=hid (z.out.kept br_.drew);have y5:=A.out.1.cell (k:=k+1) (by omega);have y6:=A.out.1.frozen (k+1);clear y HX B O;go_wp2_with fail;refine A97 17 (by kernel_rfl) (by kernel_rfl) ?_;simp only[List.take_succ_cons,List.take_zero,List.drop_succ_cons,List.drop_zero];refine E8 (λK d=>?_)
      go_simp
      refine d _ ?_;clear d K;refine E8 (λK d=>?_)
      go_simp
      refine d _ ?_;clear d K;refine E8 (λK d=>?_)
      go_simp
      refine d _ ?_;clear d K;refine E8 (λK d=>?_)
      go_simp
      refine d _ ?_;clear d K;refine E8 (λK d=>?_)
      go_simp
      refine d _ ?_;clear d K;refine E8 (λK d=>?_)
      go_simp
      refine d _ ?_;clear d K;refine E8 (λK d=>?_)
      go_simp
      refine d _ ?_;clear d K;refine E8 (λK d=>?_)
      go_simp
      refine d _ ?_;clear d K;refine d8 (by kernel_rfl) ?_;refine d8 (by kernel_rfl) ?_;refine d8 (by kernel_rfl) ?_;refine d8 (by kernel_rfl) ?_;refine d8 (by kernel_rfl) ?_;refine d8 (by kernel_rfl) ?_;refine d8 (by kernel_rfl) ?_;refine E8 (λK d=>?_)
      go_simp
      refine d _ ?_;clear d K;refine E8 (λK d=>?_)
      go_simp
      refine d _ ?_;clear d K;refine B2R ?_;change wpList _ _ _ _ _ wr.drew;go_wp2_with fail;go_roundw
      case rel=>exact⟨k+1,by omega,by go_num,hid (by rw[M.out];exact A.out.put q (k+1) false)⟩
      case measure=>simp[intOf];omega
    | true =>
      obtain⟨r,m⟩:∃r,r=has (c0,c1,c2,c3) s[k].toNat:=⟨_,rfl⟩
      rw[←m] at y
      have ax:Hid (∀W,Hid (BE w g (s.size+1) D E c0 c1 c2 c3 W)->Calls prog 93 #[.agg #[.int .u64 c0,.int .u64 c1,.int .u64 c2,.int .u64 c3],.int .i64 (IntKind.i64.wrap (s[k].toNat:Int))] W (λe W'=>e=.returned (.bool r)/\Hid (BE w g (s.size+1) D E c0 c1 c2 c3 W'))):=hid (λW h=>by
       rw[show IntKind.i64.wrap (s[k].toNat:Int)=(s[k].toNat:Int) from B5E _ t];exact(y.out W).mono λe W' ⟨h1,h2⟩=>⟨h1,hid (h.out.kept h2)⟩)
      have HS:Hid (∀w',Hid (BEx w g (s.size+1) D E c0 c1 c2 c3 (k+1) r w')->(w'.cell? ⟨w.heap.size+1,1,none⟩=some (.int .u64 c0)/\w'.cell? ⟨w.heap.size+1,2,none⟩=some (.int .u64 c1)/\w'.cell? ⟨w.heap.size+1,3,none⟩=some (.int .u64 c2)/\w'.cell? ⟨w.heap.size+1,4,none⟩=some (.int .u64 c3)/\w'.cell? ⟨g,k,none⟩=some (.bool (D k))/\Hid (BEx w g (s.size+1) D E c0 c1 c2 c3 (k+1) r w'))):=hid (λw' h=>by
       rcases h.out with h1|⟨w0,rfl,h1⟩
       .obtain⟨a1,a2,a3,a4⟩:=h1.cells
        exact⟨a1,a2,a3,a4,h1.2.2.1.cell (by omega),h⟩
       .obtain⟨a1,a2,a3,a4⟩:=(h1.put q (k+1) r).cells
        exact⟨a1,a2,a3,a4,(h1.put q (k+1) r).2.2.1.cell (by omega),h⟩)
      rw[←HX.out] at HS;have au:Hid (∀w',BE w g (s.size+1) D E c0 c1 c2 c3 w'->(w'.cell? ⟨w.heap.size,k+1,none⟩=some (.bool (E (k+1)))/\w'.frozen? ⟨w.heap.size,k+1,none⟩=false)):=hid (λw' h=>⟨h.1.cell (by omega),h.1.frozen _⟩);have M:Hid (A1u s.data.toList (c0,c1,c2,c3) D (k+1)=A1v E (k+1) r):=hid (by rw[B.out,Bool.true_and,m]);have A:Hid (BE w g (s.size+1) D E c0 c1 c2 c3 wr.drew):=hid (z.out.kept br_.drew);have aS:(s[k].toNat:Int)<256:=by omega
      clear m B HX y;go_wp2_with fail
      go_region_held3 (λw'=>w'.cell? ⟨w.heap.size+1,1,none⟩=some (.int .u64 c0)/\w'.cell? ⟨w.heap.size+1,2,none⟩=some (.int .u64 c1)/\w'.cell? ⟨w.heap.size+1,3,none⟩=some (.int .u64 c2)/\w'.cell? ⟨w.heap.size+1,4,none⟩=some (.int .u64 c3)/\w'.cell? ⟨g,k,none⟩=some (.bool true)/\Hid (BEx w g (s.size+1) D E c0 c1 c2 c3 (k+1) r w'))
       (exact HS.out _ (by first | exact hid (.inl (Hid.out (by assumption))) | exact hid (.inr ⟨_,rfl,Hid.out (by assumption)⟩)))
       (first | (go_at_call 93;refine(ax.out _ (by assumption)).mono ?_;rintro e w5⟨rfl,F⟩;obtain⟨z0,z1⟩:=au.out _ F.out))
      go_wp2_with fail;go_roundw
      case rel=>exact⟨k+1,by omega,by go_num,hid (by rw[M.out];exact F.out.put q (k+1) r)⟩
      case measure=>simp[intOf];omega
   .obtain rfl:k=s.size:=by omega
    have H:=B6n s.data.toList (c0,c1,c2,c3) D;rw[ad.out] at H;have ar:=hid H;clear H;go_wp2;go_ret;exact⟨w.heap.size,_,rfl,z.out.1,ar.out,z.out.2.2.2⟩
theorem B1A(l:List Nd)(hg:∀n∈l,m6 n)(z:∀n∈l,P5 n.cls)(B:l.length<=60)(b c cap:Nat)(s:B_)(hs:s.size<=400)(a:Rx)(t:∀i,At l i a->Z2 l b c cap s a i)(i:Nat)(hat:At l i (.star a)):Z2 l b c cap s (.star a) i:=by
 have HM:Hid (∀(w:W_),q7 w (.slice (some ⟨b,c,none⟩) l.length cap) l->∀k n,l[k]?=some n ->
  w.cell? ⟨b,c+k*5,none⟩=some (.int .i64 n.op)/\w.cell? ⟨b,c+k*5+1,none⟩=some (.int .u64 (n.cls.1:Int))/\w.cell? ⟨b,c+k*5+2,none⟩=some (.int .u64 (n.cls.2.1:Int)) /\
  w.cell? ⟨b,c+k*5+3,none⟩=some (.int .u64 (n.cls.2.2.1:Int))/\w.cell? ⟨b,c+k*5+4,none⟩=some (.int .u64 (n.cls.2.2.2:Int))):=hid (λw j k n M=>by
  obtain⟨A',H,O,F,q,d⟩:=j.open_;injection O with e1 _ e2
  obtain⟨b',r,T,_,hc⟩:=d (by have:=(List.getElem?_eq_some_iff.1 M).1;omega);rw[T] at e1;cases e1;exact hc w (λ_=>rfl) k n M)
 have Y:Hid (∀(w:W_),q7 w (.slice (some ⟨b,c,none⟩) l.length cap) l->0<l.length->b<w.heap.size):=hid (λw j M=>by
  obtain⟨A',H,O,F,q,d⟩:=j.open_;injection O with e1 _ e2
  obtain⟨b',r,T,hb,_⟩:=d M;rw[T] at e1;cases e1;exact hb)
 have ad:=hid (λ(i:Nat)(hi:i<=l.length) (w:W_) (j:q7 w (.slice (some ⟨b,c,none⟩) l.length cap) l)=>C8 l hg B (some ⟨b,c,none⟩) cap l.length i w (by omega) hi j);have ax:=hid z;have au:=hid (show s.data.toList.length=s.size by simp);have L:=hid (λ(u:Rx)(i:Nat) (h:Z2 l b c cap s u i)=>t7 l b c cap s hs u i h);have m:Hid (∀(w:W_)(o o':Obj),Below w.heap.size w ((w.alloc o).alloc o')):=hid λw o o'=>ba_.alloc (by simp) _
 have A:=λW=>B8 (s.size+1) (by omega) W
 have R:=A;rw[show((s.size+1:Nat):Int)=(s.size:Int)+1 by omega] at R;have y:=λf (hf:f<s.size+1)=>j7 (s.size+1) (.bool false) f hf
 have av:=hid y;clear hg z y
 .intro w g D j S
  obtain⟨q0,q1,q2,q3,q4⟩:=HM.out w j i _ hat.star.1;have hlt:=hat.lt;have ab:=G0 (.star a);have ak:(i:Int)<l.length:=by omega
  have al:=S.lt;have ao:=Y.out w j (by omega);have HR:=hid j;have HD:=hid S;dsimp only[zc] at q0 q1 q2 q3 q4;have X:=hid (L.out a (i+1) (t (i+1) hat.star.2));clear hat j S t;go_enter func169,ntmps169;go_wp2_with fail;refine(X.out _ g D (HR.out.below (m.out w _ _)) (HD.out.below (m.out w _ _))).mono ?_;rintro e w1⟨g1,D1,rfl,C,p,G⟩;have V:=hid C;have J:=hid p;have Z:=hid (((m.out w _ _)).trans (G.mono ((m.out w _ _)).size));clear C p G;go_wp2_with fail;go_ret;exact⟨g1,D1,rfl,V.out,B6l J.out,Z.out⟩
theorem B1B(l:List Nd)(hg:∀n∈l,m6 n)(C:∀n∈l,P5 n.cls)(G:l.length<=60)(b c cap:Nat)(s:B_)(hs:s.size<=400)(a:Rx)(r:∀i,At l i a->Z2 l b c cap s a i)(i:Nat)(hat:At l i (.plus a)):Z2 l b c cap s (.plus a) i:=by
 have HM:Hid (∀(w:W_),q7 w (.slice (some ⟨b,c,none⟩) l.length cap) l->∀k n,l[k]?=some n ->
  w.cell? ⟨b,c+k*5,none⟩=some (.int .i64 n.op)/\w.cell? ⟨b,c+k*5+1,none⟩=some (.int .u64 (n.cls.1:Int))/\w.cell? ⟨b,c+k*5+2,none⟩=some (.int .u64 (n.cls.2.1:Int)) /\
  w.cell? ⟨b,c+k*5+3,none⟩=some (.int .u64 (n.cls.2.2.1:Int))/\w.cell? ⟨b,c+k*5+4,none⟩=some (.int .u64 (n.cls.2.2.2:Int))):=hid (λw j k n X=>by
  obtain⟨A',R,Y,L,t,d⟩:=j.open_;injection Y with e1 _ e2
  obtain⟨b',A,hA,_,hc⟩:=d (by have:=(List.getElem?_eq_some_iff.1 X).1;omega);rw[hA] at e1;cases e1;exact hc w (λ_=>rfl) k n X)
 have ah:Hid (∀(w:W_),q7 w (.slice (some ⟨b,c,none⟩) l.length cap) l->0<l.length->b<w.heap.size):=hid (λw j X=>by
  obtain⟨A',R,Y,L,t,d⟩:=j.open_;injection Y with e1 _ e2
  obtain⟨b',A,hA,hb,_⟩:=d X;rw[hA] at e1;cases e1;exact hb)
 have aq:=hid (λ(i:Nat)(hi:i<=l.length) (w:W_) (j:q7 w (.slice (some ⟨b,c,none⟩) l.length cap) l)=>C8 l hg G (some ⟨b,c,none⟩) cap l.length i w (by omega) hi j);have aI:=hid C;have ac:=hid (show s.data.toList.length=s.size by simp);have V:=hid (λ(u:Rx)(i:Nat) (h:Z2 l b c cap s u i)=>t7 l b c cap s hs u i h);have m:Hid (∀(w:W_)(o o':Obj),Below w.heap.size w ((w.alloc o).alloc o')):=hid λw o o'=>ba_.alloc (by simp) _
 have F:=λW=>B8 (s.size+1) (by omega) W
 have Z:=F;rw[show((s.size+1:Nat):Int)=(s.size:Int)+1 by omega] at Z;have B:=λf (hf:f<s.size+1)=>j7 (s.size+1) (.bool false) f hf
 have aH:=hid B;clear hg C B
 .intro w g D j hD
  obtain⟨q0,q1,q2,q3,q4⟩:=HM.out w j i _ hat.plus.1;have hlt:=hat.lt;have ak:=G0 (.plus a);have az:(i:Int)<l.length:=by omega
  have aA:=hD.lt;have aC:=ah.out w j (by omega);have HR:=hid j;have HD:=hid hD;dsimp only[zc] at q0 q1 q2 q3 q4;have ag:=hid (V.out a (i+1) (r (i+1) hat.plus.2));have y:=r (i+1) hat.plus.2;unfold Z2 at y;have ad:=hid y;clear hat j hD r y;go_enter func169,ntmps169;go_wp2_with fail;refine(ad.out _ g D (HR.out.below (m.out w _ _)) (HD.out.below (m.out w _ _))).mono ?_;rintro e w1⟨g1,D1,rfl,J,q,O⟩;have af:=hid J;have T:=hid q;have z:=hid (((m.out w _ _)).trans (O.mono ((m.out w _ _)).size));clear J q O;go_wp2_with fail;refine(ag.out _ g1 D1 (HR.out.below z.out) (af.out)).mono ?_;rintro e w2⟨g2,D2,rfl,H,p,M⟩;have ae:=hid H;have S:=hid p;have ai:=hid ((z.out).trans (M.mono (z.out).size));clear H p M;go_wp2_with fail;go_ret;exact⟨g2,D2,rfl,ae.out,by have h1:=T.out;have h2:=S.out;rw[←ac.out] at h1 h2 ⊢;exact B6m h1 h2,ai.out⟩
theorem B3o(l:List Nd)(hg:∀n∈l,m6 n)(B:∀n∈l,P5 n.cls)(F:l.length<=60)(b c cap:Nat)(s:B_)(hs:s.size<=400)(a:Rx)(z:∀i,At l i a->Z2 l b c cap s a i)(i:Nat)(hat:At l i (.opt a)):Z2 l b c cap s (.opt a) i:=by
 have HM:Hid (∀(w:W_),q7 w (.slice (some ⟨b,c,none⟩) l.length cap) l->∀k n,l[k]?=some n ->
  w.cell? ⟨b,c+k*5,none⟩=some (.int .i64 n.op)/\w.cell? ⟨b,c+k*5+1,none⟩=some (.int .u64 (n.cls.1:Int))/\w.cell? ⟨b,c+k*5+2,none⟩=some (.int .u64 (n.cls.2.1:Int)) /\
  w.cell? ⟨b,c+k*5+3,none⟩=some (.int .u64 (n.cls.2.2.1:Int))/\w.cell? ⟨b,c+k*5+4,none⟩=some (.int .u64 (n.cls.2.2.2:Int))):=hid (λw m k n S=>by
  obtain⟨A',M,T,J,q,d⟩:=m.open_;injection T with e1 _ e2
  obtain⟨b',y,Y,_,hc⟩:=d (by have:=(List.getElem?_eq_some_iff.1 S).1;omega);rw[Y] at e1;cases e1;exact hc w (λ_=>rfl) k n S)
 have ad:Hid (∀(w:W_),q7 w (.slice (some ⟨b,c,none⟩) l.length cap) l->0<l.length->b<w.heap.size):=hid (λw m S=>by
  obtain⟨A',M,T,J,q,d⟩:=m.open_;injection T with e1 _ e2
  obtain⟨b',y,Y,hb,_⟩:=d S;rw[Y] at e1;cases e1;exact hb)
 have ai:=hid (λ(i:Nat)(hi:i<=l.length) (w:W_) (m:q7 w (.slice (some ⟨b,c,none⟩) l.length cap) l)=>C8 l hg F (some ⟨b,c,none⟩) cap l.length i w (by omega) hi m);have aF:=hid B;have aC:=hid (show s.data.toList.length=s.size by simp);have ak:=hid (λ(u:Rx)(i:Nat) (h:Z2 l b c cap s u i)=>t7 l b c cap s hs u i h);have j:Hid (∀(w:W_)(o o':Obj),Below w.heap.size w ((w.alloc o).alloc o')):=hid λw o o'=>ba_.alloc (by simp) _
 have C:=λW=>B8 (s.size+1) (by omega) W
 have V:=C;rw[show((s.size+1:Nat):Int)=(s.size:Int)+1 by omega] at V;have A:=λf (hf:f<s.size+1)=>j7 (s.size+1) (.bool false) f hf
 have aD:=hid A;clear hg B A
 .intro w g D m X
  obtain⟨q0,q1,q2,q3,q4⟩:=HM.out w m i _ hat.opt.1;have hlt:=hat.lt;have ag:=G0 (.opt a);have au:(i:Int)<l.length:=by omega
  have av:=X.lt;have ax:=ad.out w m (by omega);have HR:=hid m;have HD:=hid X;dsimp only[zc] at q0 q1 q2 q3 q4;have t:=z (i+1) hat.opt.2;unfold Z2 at t;have Z:=hid t;clear hat m X z t;go_enter func169,ntmps169;go_wp2_with fail;refine(Z.out _ g D (HR.out.below (j.out w _ _)) (HD.out.below (j.out w _ _))).mono ?_;rintro e w1⟨g1,D1,rfl,H,p,r⟩;have ab:=hid H;have O:=hid p;have R:=hid (((j.out w _ _)).trans (r.mono ((j.out w _ _)).size));have ac:=hid ((HD.out.below (j.out w _ _)).below r);clear H p r;go_wp2_with fail;refine(A28 g g1 (s.size+1) (by omega) D D1 _ (ac.out) (ab.out)).mono ?_;rintro e w2⟨g2,rfl,G,L⟩;have aa:=hid G;have ae:=hid ((R.out).trans (L.mono (R.out).size));clear G L;go_wp2_with fail;go_ret;exact⟨g2,_,rfl,aa.out,B8X O.out,ae.out⟩
theorem B3q(l:List Nd)(hg:∀n∈l,m6 n)(L:∀n∈l,P5 n.cls)(O:l.length<=60)(b d cap:Nat)(s:B_)(hs:s.size<=400)(a c:Rx)(H:∀i,At l i a->Z2 l b d cap s a i)(G:∀i,At l i c->Z2 l b d cap s c i)(i:Nat)(hat:At l i (.cat a c)):Z2 l b d cap s (.cat a c) i:=by
 have HM:Hid (∀(w:W_),q7 w (.slice (some ⟨b,d,none⟩) l.length cap) l->∀k n,l[k]?=some n ->
  w.cell? ⟨b,d+k*5,none⟩=some (.int .i64 n.op)/\w.cell? ⟨b,d+k*5+1,none⟩=some (.int .u64 (n.cls.1:Int))/\w.cell? ⟨b,d+k*5+2,none⟩=some (.int .u64 (n.cls.2.1:Int)) /\
  w.cell? ⟨b,d+k*5+3,none⟩=some (.int .u64 (n.cls.2.2.1:Int))/\w.cell? ⟨b,d+k*5+4,none⟩=some (.int .u64 (n.cls.2.2.2:Int))):=hid (λw q k n hk=>by
  obtain⟨A',Y,hv,T,z,m⟩:=q.open_;injection hv with e1 _ e2
  obtain⟨b',F,hA,_,hc⟩:=m (by have:=(List.getElem?_eq_some_iff.1 hk).1;omega);rw[hA] at e1;cases e1;exact hc w (λ_=>rfl) k n hk)
 have ao:Hid (∀(w:W_),q7 w (.slice (some ⟨b,d,none⟩) l.length cap) l->0<l.length->b<w.heap.size):=hid (λw q hk=>by
  obtain⟨A',Y,hv,T,z,m⟩:=q.open_;injection hv with e1 _ e2
  obtain⟨b',F,hA,hb,_⟩:=m hk;rw[hA] at e1;cases e1;exact hb)
 have ab:=hid (λ(i:Nat)(hi:i<=l.length) (w:W_) (q:q7 w (.slice (some ⟨b,d,none⟩) l.length cap) l)=>C8 l hg O (some ⟨b,d,none⟩) cap l.length i w (by omega) hi q);have aR:=hid L;have ah:=hid (show s.data.toList.length=s.size by simp);have ay:=hid (λ(u:Rx)(i:Nat) (h:Z2 l b d cap s u i)=>t7 l b d cap s hs u i h);have p:Hid (∀(w:W_)(o o':Obj),Below w.heap.size w ((w.alloc o).alloc o')):=hid λw o o'=>ba_.alloc (by simp) _
 have M:=λW=>B8 (s.size+1) (by omega) W
 have ae:=M;rw[show((s.size+1:Nat):Int)=(s.size:Int)+1 by omega] at ae;have J:=λf (hf:f<s.size+1)=>j7 (s.size+1) (.bool false) f hf
 have aQ:=hid J;clear hg L J
 .intro w g D q hD
  obtain⟨q0,q1,q2,q3,q4⟩:=HM.out w q i _ hat.cat.1;have hlt:=hat.lt;have ar:=G0 (.cat a c);have aI:(i:Int)<l.length:=by omega
  have aJ:=hD.lt;have aL:=ao.out w q (by omega);have HR:=hid q;have HD:=hid hD;dsimp only[zc] at q0 q1 q2 q3 q4;obtain⟨_,j,y⟩:=hat.cat;have B:=H (i+1) j;have A:=G (i+1+(A0 a).length) y;unfold Z2 at B A;have aG:=G0 a;have aH:=j.lt;have HE:=hid (λW h=>ab.out (i+1) (by omega) W h);rw[A0z j] at HE;generalize i+1+(A0 a).length=e2 at *;have aj:=hid B;have ai:=hid A;clear hat q hD H G B A j y;go_enter func169,ntmps169;go_wp2_with fail;refine(HE.out _ (HR.out.below (p.out w _ _))).mono ?_;rintro e az⟨rfl,rfl⟩;go_wp2_with fail;refine(aj.out _ g D (HR.out.below (p.out w _ _)) (HD.out.below (p.out w _ _))).mono ?_;rintro e w1⟨g1,D1,rfl,S,t,X⟩;have am:=hid S;have aa:=hid t;have C:=hid (((p.out w _ _)).trans (X.mono ((p.out w _ _)).size));clear S t X;go_wp2_with fail;refine(ai.out _ g1 D1 (HR.out.below C.out) (am.out)).mono ?_;rintro e w2⟨g2,D2,rfl,R,r,V⟩;have al:=hid R;have Z:=hid r;have ap:=hid ((C.out).trans (V.mono (C.out).size));clear R r V;go_wp2_with fail;go_ret;exact⟨g2,D2,rfl,al.out,by have h1:=aa.out;have h2:=Z.out;rw[←ah.out] at h1 h2 ⊢;exact B8Z h1 h2,ap.out⟩
theorem B3s(l:List Nd)(hg:∀n∈l,m6 n)(O:∀n∈l,P5 n.cls)(S:l.length<=60)(b d cap:Nat)(s:B_)(hs:s.size<=400)(a c:Rx)(L:∀i,At l i a->Z2 l b d cap s a i)(J:∀i,At l i c->Z2 l b d cap s c i)(i:Nat)(hat:At l i (.alt a c)):Z2 l b d cap s (.alt a c) i:=by
 have HM:Hid (∀(w:W_),q7 w (.slice (some ⟨b,d,none⟩) l.length cap) l->∀k n,l[k]?=some n ->
  w.cell? ⟨b,d+k*5,none⟩=some (.int .i64 n.op)/\w.cell? ⟨b,d+k*5+1,none⟩=some (.int .u64 (n.cls.1:Int))/\w.cell? ⟨b,d+k*5+2,none⟩=some (.int .u64 (n.cls.2.1:Int)) /\
  w.cell? ⟨b,d+k*5+3,none⟩=some (.int .u64 (n.cls.2.2.1:Int))/\w.cell? ⟨b,d+k*5+4,none⟩=some (.int .u64 (n.cls.2.2.2:Int))):=hid (λw q k n hk=>by
  obtain⟨A',aa,hv,Y,A,m⟩:=q.open_;injection hv with e1 _ e2
  obtain⟨b',H,hA,_,hc⟩:=m (by have:=(List.getElem?_eq_some_iff.1 hk).1;omega);rw[hA] at e1;cases e1;exact hc w (λ_=>rfl) k n hk)
 have av:Hid (∀(w:W_),q7 w (.slice (some ⟨b,d,none⟩) l.length cap) l->0<l.length->b<w.heap.size):=hid (λw q hk=>by
  obtain⟨A',aa,hv,Y,A,m⟩:=q.open_;injection hv with e1 _ e2
  obtain⟨b',H,hA,hb,_⟩:=m hk;rw[hA] at e1;cases e1;exact hb)
 have ae:=hid (λ(i:Nat)(hi:i<=l.length) (w:W_) (q:q7 w (.slice (some ⟨b,d,none⟩) l.length cap) l)=>C8 l hg S (some ⟨b,d,none⟩) cap l.length i w (by omega) hi q);have aX:=hid O;have aV:=hid (show s.data.toList.length=s.size by simp);have aC:=hid (λ(u:Rx)(i:Nat) (h:Z2 l b d cap s u i)=>t7 l b d cap s hs u i h);have p:Hid (∀(w:W_)(o o':Obj),Below w.heap.size w ((w.alloc o).alloc o')):=hid λw o o'=>ba_.alloc (by simp) _
 have R:=λW=>B8 (s.size+1) (by omega) W
 have ai:=R;rw[show((s.size+1:Nat):Int)=(s.size:Int)+1 by omega] at ai;have M:=λf (hf:f<s.size+1)=>j7 (s.size+1) (.bool false) f hf
 have aW:=hid M;clear hg O M
 .intro w g D q hD
  obtain⟨q0,q1,q2,q3,q4⟩:=HM.out w q i _ hat.alt.1;have hlt:=hat.lt;have ay:=G0 (.alt a c);have aM:(i:Int)<l.length:=by omega
  have aN:=hD.lt;have aP:=av.out w q (by omega);have HR:=hid q;have HD:=hid hD;dsimp only[zc] at q0 q1 q2 q3 q4;obtain⟨_,j,z⟩:=hat.alt;have G:=L (i+1) j;have F:=J (i+1+(A0 a).length) z;unfold Z2 at G F;have aK:=G0 a;have aL:=j.lt;have HE:=hid (λW h=>ae.out (i+1) (by omega) W h);rw[A0z j] at HE;generalize i+1+(A0 a).length=e2 at *;have am:=hid G;have al:=hid F;clear hat q hD L J G F j z;go_enter func169,ntmps169;go_wp2_with fail;refine(am.out _ g D (HR.out.below (p.out w _ _)) (HD.out.below (p.out w _ _))).mono ?_;rintro e w1⟨g1,D1,rfl,X,y,C⟩;have ar:=hid X;have ac:=hid y;have r:=hid (((p.out w _ _)).trans (C.mono ((p.out w _ _)).size));have au:=hid ((HD.out.below (p.out w _ _)).below C);clear X y C;go_wp2_with fail;refine(HE.out _ (HR.out.below r.out)).mono ?_;rintro e aD⟨rfl,rfl⟩;go_wp2_with fail;refine(al.out _ g D (HR.out.below r.out) (au.out)).mono ?_;rintro e w2⟨g2,D2,rfl,V,t,B⟩;have aq:=hid V;have ab:=hid t;have af:=hid ((r.out).trans (B.mono (r.out).size));have ad:=hid (ar.out.below B);clear V t B;go_wp2_with fail;refine(A28 g1 g2 (s.size+1) (by omega) D1 D2 _ (ad.out) (aq.out)).mono ?_;rintro e w3⟨g3,rfl,T,Z⟩;have ap:=hid T;have aw:=hid ((af.out).trans (Z.mono (af.out).size));clear T Z;go_wp2_with fail;go_ret;exact⟨g3,_,rfl,ap.out,B8b ac.out ab.out,aw.out⟩
theorem B1F(l:List Nd)(k:∀n∈l,m6 n)(h:∀n∈l,P5 n.cls)(d:l.length<=60)(b f cap:Nat)(s:B_)(j:s.size<=400):∀(u:Rx)(i:Nat),At l i u->Z2 l b f cap s u i:=by
 intro u
 induction u with
 | byte c=>exact λi=>B1C l k h d b f cap s j c i
 | empty=>exact λi=>A9a l k h d b f cap s j i
 | bgn=>exact λi=>B3r l k h d b f cap s j i
 | fin=>exact λi=>B3p l k h d b f cap s j i
 | star a iha=>exact λi=>B1A l k h d b f cap s j a iha i
 | plus a iha=>exact λi=>B1B l k h d b f cap s j a iha i
 | opt a iha=>exact λi=>B3o l k h d b f cap s j a iha i
 | cat a c iha ihc=>exact λi=>B3q l k h d b f cap s j a c iha ihc i
 | alt a c iha ihc=>exact λi=>B3s l k h d b f cap s j a c iha ihc i
