import Derived.Test.YthhcpbfgoofppaaGreatDoorLaws
import Derived.Test.YthhcpbfgoofppaaGreatDoorMem
import Derived.Outline
import Derived.Deep.LoopGhost
import Derived.Deep.QuietTactic
import Derived.BigQuiet
import Derived.WalkSmall
import Derived.Deep.RegionHeld3
set_option linter.unusedVariables false
set_option linter.unusedSimpArgs false
open Wf
set_option maxRecDepth 100000
set_option maxHeartbeats 4000000
open Go.Lib (hid)
open Go.Proofs.Tryz hiding parts
namespace Go.Proofs.YthhcpbfgoofppaaGreatDoor
open Go.RowKit Wf
def m7(n:Int):V_:=if n=0 then .nilIface else .iface 81 (.int .i64 n)
theorem j5:m7 0=.nilIface:=rfl
theorem L8{n:Int}(h:n≠0):m7 n=.iface 81 (.int .i64 n):=by simp[m7,h]
def B16(n:Int)(w:W_)(e:Ending)(w':W_):Prop:=e=.returned (.int .i64 (parts n))/\w=w'
theorem A7E(n:Int)(w:W_):Calls prog 103 #[.int .i64 n] w (B16 n w):=by
 have key:∀m:Int,m=(parts n:Int)->B16 n w (.returned (.int .i64 m)) w:=λm h=>⟨by rw[h],rfl⟩
 have b:(n=3\/n=4)->(2:Int)=parts n:=λh=>by simp[parts,h]
 have c:¬(n=3\/n=4)->(n=5\/n=6\/n=7)->(1:Int)=parts n:=λh a=>by unfold parts;rw[if_neg h,if_pos a];rfl
 have d:¬(n=3\/n=4)->¬(n=5\/n=6\/n=7)->(0:Int)=parts n:=λh a=>by unfold parts;rw[if_neg h,if_neg a];rfl
 have g:=hid b;have i:=hid c;have j:=hid d;have f:=hid key;clear b c d key;go_enter func103,ntmps103;go_wp2
 all_goals go_ret
 all_goals refine f.out _ ?_
 all_goals simp only[beq_iff_eq,beq_eq_false_iff_ne] at *
 all_goals first | exact g.out (by omega) | exact i.out (by omega) (by omega) | exact j.out (by omega) (by omega)
def A7y(l:List Nd)(w:W_)(e:Ending)(w':W_):Prop:=e=.returned (m7 (chk l))/\Below w.heap.size w w'
theorem A1N{α:Type}{l:List α}{k:Nat}(h:k<l.length):∃x,l[k]?=some x:=⟨_,List.getElem?_eq_getElem h⟩
theorem A0U(l:List Nd)(v:V_)(w:W_)(V:q7 w v l):Calls prog 71 #[v] w (A7y l w):=by
 obtain⟨A,cap,rfl,X,Q,g⟩:=V.open_;have key:∀(m:V_)(w':W_),m=m7 (chk l)->Below w.heap.size w w'->A7y l w (.returned m) w':=λm w' h B=>⟨by rw[h],B⟩
 have T:=hid key;have HM:=hid g;clear key g V;by_cases h60:60<l.length
 .have L:chk l=3:=by unfold chk;rw[if_pos h60]
  have P:=hid L;clear L;go_enter func71,ntmps71;go_wp2;go_ret;exact T.out _ _ (by rw[P.out];rfl) br_
 .have L:chk l=X2 l 1 true:=by unfold chk;rw[if_neg h60]
  have P:=hid L;clear L;go_enter func71,ntmps71;go_wp2
  go_loopw [3,4,13] (λv3 v4 v13 wr=>∃(k:Nat)(c:Int) (a:Bool),k<=l.length/\v13=.int .i64 k/\v3=.int .i64 c/\v4=.bool a/\c<=1+k/\1 - k<=c /\
   Hid (X2 (l.drop k) c a=X2 l 1 true)/\Below w.heap.size w wr) (λ_ _ i _=>l.length - (intOf i).toNat)
  case atStart=>exact⟨0,1,true,by omega,rfl,rfl,rfl,by omega,by omega,rfl,br_⟩
  case round =>
   obtain⟨k,c,a,hk,rfl,rfl,rfl,ad,ac,O,B⟩:=hrel;by_cases hlt:k<l.length
   .obtain⟨b,Z,rfl,R,d⟩:=HM.out (by omega)
    obtain⟨n,G⟩:=A1N hlt;obtain⟨g0,g1,g2,g3,g4⟩:=d wr (λo=>B.cell (p:=⟨b,o,none⟩) R) k n G
    have f:l.drop k=n::l.drop (k+1):=by
     rw[List.drop_eq_getElem_cons hlt];congr 1;have:=List.getElem?_eq_getElem hlt;rw[G] at this;exact(Option.some.inj this).symm
    have J:X2 l 1 true=X2 (n::l.drop (k+1)) c a:=by rw[←O.out,f]
    have M:=hid J;clear J O;clear f G d;have F:=B.size;obtain⟨op,z,y,t,s⟩:=n;dsimp only at g0 g1 g2 g3 g4;have hp:=A5E op;have hp':(parts op:Int)<=2:=by omega
    have aa:(0:Int)<=(parts op:Int):=by omega
    have E:(S9 z y t s 0 0 0 0=true)\/(S9 z y t s 0 0 0 0=false):=by cases S9 z y t s 0 0 0 0 <;> simp
    have D:S9 z y t s 0 0 0 0=true↔(z,y,t,s)=zc:=A5h z y t s 0 0 0 0;have S:=hid D;have r:(op<1\/9<op)->X2 l 1 true=1:=λh=>by rw[M.out];unfold X2;rw[if_pos h]
    have q:1<=op->op<=9->op≠1->S9 z y t s 0 0 0 0=false->X2 l 1 true=2:=λh1 h2 C N=>by
     rw[M.out];unfold X2;rw[if_neg (by simp;omega),if_pos ⟨C,λh=>by rw[S.out.2 h] at N;cases N⟩]
    have j:1<=op->op<=9->(op=1\/S9 z y t s 0 0 0 0=true)->X2 (l.drop (k+1)) (c+((parts op:Int) - 1)) (a&&decide (0<c))=X2 l 1 true:=λh1 h2 C=>by
     rw[M.out,X2,if_neg (by simp;omega),if_neg];rintro⟨N,h5⟩;rcases C with C|C
     .exact N C
     .exact h5 (S.out.1 C)
    have F1:=hid r;have F2:=hid q;have Y:=hid j;clear D hp r q j S;rcases E with E|E <;> by_cases hop:op=1
    all_goals (try subst hop)
    all_goals cases a
    all_goals go_wp2_with (go_at_call 103;refine(A7E _ _).mono ?_;rintro e w'⟨rfl,rfl⟩)
    all_goals first
     | (go_ret;exact T.out _ _ (by rw[P.out];first | (rw[F1.out (by omega)];rfl) | (rw[F2.out (by omega) (by omega) (by omega) E];rfl)) (B.alloc F _))
     | (go_roundw
        case rel=>exact⟨k+1,_,_,by omega,by go_num,rfl,rfl,by omega,by omega,by first | exact hid (Y.out (by omega) (by omega) (.inr E)) | exact hid (Y.out (by omega) (by omega) (.inl (by first | trivial | rfl))),B.alloc F _⟩
        case measure=>simp[intOf];omega)
   .have H:k=l.length:=by omega
    have J:X2 l 1 true=(if a=true/\c=0 then 0 else 2):=by
     rw[←O.out,H,List.drop_length];rfl
    have M:=hid J;clear J O H;by_cases G:c=0
    all_goals cases a
    all_goals (try subst G)
    all_goals go_wp2
    all_goals first
     | (go_ret;exact T.out _ _ (by rw[P.out,M.out];first | (simp[m7];done) | (rw[if_neg (by simp;omega)];rfl)) B)
theorem A0B:(prog.info? 3).map (λi=>(i.zero,i.size,i.bytes))=some (some (.int .i64 0),1,8):=by kernel_rfl
theorem B3C:(prog.info? 4).map (λi=>(i.zero,i.size,i.bytes))=some (some (.bool false),1,1):=by kernel_rfl
theorem B7E(n:Nat)(h:n<=100000)(w:W_):(Instr.makeSlice 191 (.int .i64 n) (.int .i64 n)).run prog w=.ok (.slice (some ⟨w.heap.size,0,none⟩) n n) (w.alloc (.cells (A0r n (.int .i64 0)) 3)):=by
 obtain⟨f,d,c,b,a⟩:=info_parts A0B;exact B4T _ _ f _ underlying191 d c b rfl n (by rw[a];omega) (by omega) w
theorem B8(n:Nat)(h:n<=100000)(w:W_):(Instr.makeSlice 278 (.int .i64 n) (.int .i64 n)).run prog w=.ok (.slice (some ⟨w.heap.size,0,none⟩) n n) (w.alloc (.cells (A0r n (.bool false)) 4)):=by
 obtain⟨f,d,c,b,a⟩:=info_parts B3C;exact B4T _ _ f _ underlying278 d c b rfl n (by rw[a];omega) (by omega) w
def D0(a:List Nat):List V_:=a.map λ(n:Nat)=>Value.int .i64 n
def B6Z(l:List Nd)(w:W_)(e:Ending)(w':W_):Prop :=
 ∃(g:Nat)(a:List Nat),e=.returned (.slice (some ⟨g,0,none⟩) l.length l.length)/\B1M l a/\w.heap.size<=g/\g<w'.heap.size/\(∀(j x:Nat),a[j]?=some x->w'.cell? ⟨g,j,none⟩=some (.int .i64 x))/\Below w.heap.size w w'
def A0o(l:List Nd)(m:Nat)(cs:Array V_):Prop:=cs.size=l.length/\(∀j,j<cs.size->∃x:Int,cs[j]?=some (.int .i64 x))/\∀j u,m<=j->At l j u->cs[j]?=some (.int .i64 ((j+(A0 u).length:Nat):Int))
theorem A0o.start(l:List Nd):A0o l l.length (A0r l.length (.int .i64 0)):=by
 refine⟨b9 _ _,λj a=>⟨0,j7 _ _ _ (by rw[b9] at a;exact a)⟩,λj u a h=>?_⟩;have:=h.lt;have:=G0 u;omega
theorem A0o.step{l:List Nd}{i:Nat}{cs:Array V_}{u:Rx}(h:A0o l (i+1) cs)(c:At l i u):A0o l i (cs.setIfInBounds i (.int .i64 ((i+(A0 u).length:Nat):Int))):=by
 obtain⟨g,f,d⟩:=h;have hlt:=c.lt;have k:=G0 u;refine⟨by simpa using g,λj a=>?_,λj v a b=>?_⟩
 .rw[Array.getElem?_setIfInBounds]
  split
  .exact⟨_,by rw[if_pos (by simp at a;omega)]⟩
  .exact f j (by simpa using a)
 .rw[Array.getElem?_setIfInBounds]
  split
  .rename_i e
   subst e;rw[b.inj c];rw[if_pos (by omega)]
  .exact d j v (by omega) b
theorem A0o.done{t:Rx}{cs:Array V_}(h:A0o (A0 t) 0 cs):∃a:List Nat,B1M (A0 t) a/\∀(j x:Nat),a[j]?=some x->cs[j]?=some (.int .i64 x):=by
 obtain⟨C,B,y⟩:=h
 have key:∀j,j<(A0 t).length->∃n:Nat,cs[j]?=some (.int .i64 n)/\∀u,At (A0 t) j u->n=j+(A0 u).length:=by
  intro j p;obtain⟨u,d⟩:=A3o t j p;exact⟨_,y j u (by omega) d,λv r=>by rw[r.inj d]⟩
 have c:∀m,m<=(A0 t).length->∃a:List Nat,a.length=m/\∀j,j<m->∃n,a[j]?=some n/\cs[j]?=some (.int .i64 n)/\∀u,At (A0 t) j u->n=j+(A0 u).length:=by
  intro m
  induction m with
  | zero=>intro _;exact⟨[],rfl,λj p=>by omega⟩
  | succ m ih =>
    intro A;obtain⟨a,g,f⟩:=ih (by omega);obtain⟨n,o⟩:=key m (by omega);refine⟨a++[n],by simp[g],λj p=>?_⟩;by_cases hjm:j<m
    .obtain⟨k,q⟩:=f j hjm
     exact⟨k,by rw[List.getElem?_append_left (by omega)];exact q.1,q.2⟩
    .obtain rfl:j=m:=by omega
     exact⟨n,by simp[g],o⟩
 obtain⟨a,g,f⟩:=c _ (lr_ _);refine⟨a,⟨g,λi u d=>?_⟩,λj x b=>?_⟩
 .have:=d.lt
  have:=G0 u;obtain⟨n,o,_,h⟩:=f i (by omega);rw[o,h u d]
 .obtain⟨z,l,s,_⟩:=f j (by
   have:=(List.getElem?_eq_some_iff.1 b).1;omega)
  rw[l] at b;cases b;exact s
theorem B6Y(l:List Nd)(t:Rx)(O:l=A0 t)(v:V_)(w:W_)(ht:l.length<=60)(hr:q7 w v l):Calls prog 113 #[v] w (B6Z l w):=by
 obtain⟨A,cap,rfl,ag,V,q⟩:=hr.open_;have y:∀i,i<l.length->∃u,At l i u:=λi hi=>by subst O;exact A3o t i hi
 have k:∀cs,A0o l 0 cs->∃N:List Nat,B1M l N/\∀(j x:Nat),N[j]?=some x->cs[j]?=some (.int .i64 x):=λcs h=>by subst O;exact h.done
 have G:0<l.length:=by rw[O];exact G0 t
 obtain⟨b,am,rfl,X,c⟩:=q G;have HD:=hid k;have HA:=hid y;have HC:=hid c;clear k y c hr q O;have R:=λW=>B7E l.length (by omega) W
 have n:=hid (A0o.start l);go_enter func113,ntmps113;go_wp2;clear R
 go_loopw [4] (λv4 wr=>∃(m:Nat)(cs:Array V_),m<=l.length/\v4=.int .i64 ((m:Int) - 1)/\Hid (A0o l m cs)/\J0 wr w.heap.size 3 cs/\Below w.heap.size w wr) (λi _=>(intOf i+1).toNat)
 case atStart=>exact⟨l.length,_,by omega,rfl,n,J0.new _ _ _,ba_⟩
 case round =>
  obtain⟨m,cs,hm,z,D,a,Y⟩:=hrel;rcases m with _|i
  .obtain rfl:u4=.int .i64 (-1):=z
   go_wp2;go_ret;obtain⟨N,Q,P⟩:=HD.out cs D.out;exact⟨_,N,rfl,Q,lr_ _,a.lt,λj x hx=>by rw[a.cell];exact P j x hx,Y⟩
  .obtain rfl:u4=.int .i64 i:=by rw[z];congr 1;omega
   clear z;obtain⟨u,F⟩:=HA.out i (by omega);obtain⟨⟨op,cl⟩,hn,B,_⟩:=F.node;have J:i<l.length:=by omega
   obtain⟨g0,_,_,_,_⟩:=HC.out wr (λo=>Y.cell (p:=⟨b,o,none⟩) X) i _ hn;dsimp only at B g0;have ap:=A5E op;have r:∀j,j<parts op->∃v,(kids u)[j]?=some v:=λj S=>⟨_,List.getElem?_eq_getElem (by omega)⟩
   have f:∀j,j<parts op->∃C:Nat,i+pre u j<l.length/\C<=l.length/\C=i+pre u (j+1)/\cs[i+pre u j]?=some (.int .i64 C):=λj S=>by
    obtain⟨v,hv⟩:=r j S;have hat:=F.kid j v hv;have h1:=hat.lt;have h2:=G0 v;have h3:=B4c u j v hv;refine⟨i+pre u j+(A0 v).length,by omega,by omega,by omega,?_⟩;rw[D.out.2.2 (i+pre u j) v (by unfold pre;omega) hat]
   have s:pre u (parts op)=(A0 u).length:=by rw[B];exact B62 u
   have g:=F.lt;have d:=A0o.step D.out F;obtain⟨x0,E⟩:=D.out.2.1 i (by rw[D.out.1];exact J);have au:wr.cell? ⟨w.heap.size,i,none⟩=some (.int .i64 x0):=by rw[a.cell];exact E
   have av:wr.frozen? ⟨w.heap.size,i,none⟩=false:=a.frozen i;have HB:=hid a;have HN:=hid f;have M:=hid s;have HS:=hid d;have hlast':=hid g;have L:pre u 0=1:=B4b u;have ab:=hid L;clear r f s B hn F d a g L HC HA D E;have H:Hid (i+1=i+pre u 0):=by rw[ab.out];exact hid rfl
   go_wp2_with (go_at_call 103;refine(A7E _ _).mono ?_;rintro e w'⟨rfl,rfl⟩)
   go_loop [5,24] (λv5 v24=>∃j e:Nat,j<=parts op/\v24=.int .i64 j/\v5=.int .i64 e/\Hid (e=i+pre u j)) (λ_ i=>parts op - (intOf i).toNat)
   case atStart=>exact⟨0,i+1,by omega,rfl,by go_num,H⟩
   case round =>
    obtain⟨j,e,S,rfl,rfl,he⟩:=hrel;by_cases hlt:j<parts op
    .obtain⟨C,h1,h2,h3,Z⟩:=HN.out j hlt
     rw[←he.out] at h1 Z;have gl:wr.cell? ⟨w.heap.size,e,none⟩=some (.int .i64 C):=by rw[HB.out.cell];exact Z
     have H3:=hid h3;clear h3 Z;go_wp2
     go_round
     case rel=>exact⟨j+1,C,by omega,by go_num,rfl,H3⟩
     case measure=>simp[intOf];omega
    .obtain rfl:j=parts op:=by omega
     have T:Hid (e=i+(A0 u).length):=by have:=he.out;rw[M.out] at this;exact this
     go_wp2;go_roundw
     case rel=>
      refine⟨i,cs.setIfInBounds i (.int .i64 e),by omega,rfl,?_,HB.out.set_ _ _,Y.setCell (lr_ _) _⟩;have:=HS.out;rw[←T.out] at this;exact this
     case measure=>simp[intOf]
theorem M0{B:Nat}{a w:W_}(h:Below B a w)(n:Nat):Below B a (w.drewN n):=⟨h.os,h.tape,h.output,h.size,h.block⟩
theorem X3{α:Type}{l:List α}{k:Nat}{x:α}(h:l[k]?=some x):l.take (k+1)=l.take k++[x]:=by
 rw[List.take_add_one,h];rfl
def C6(c:X4):V_:=.agg #[.int .u64 (c.1:Int),.int .u64 (c.2.1:Int),.int .u64 (c.2.2.1:Int),.int .u64 (c.2.2.2:Int)]
theorem B38(c:X4)(q:Nat)(h:q<4):[Value.int .u64 (c.1:Int),.int .u64 (c.2.1:Int),.int .u64 (c.2.2.1:Int),.int .u64 (c.2.2.2:Int)][q]?=some (.int .u64 (word c q:Int)):=by
 match q,h with
 | 0,_=>rfl
 | 1,_=>rfl
 | 2,_=>rfl
 | 3,_=>rfl
theorem B7q(n k:Nat)(b:n<18446744073709551616):(bits .and .u64 ((n:Int) / 2 ^ k) 1==1)=n.testBit k:=by
 have e:(n:Int) / 2 ^ k=((n / 2 ^ k:Nat):Int):=by simp
 have a:n / 2 ^ k<=n:=Nat.div_le_self _ _;rw[e,Nat.testBit_eq_decide_div_mod_eq];generalize n / 2 ^ k=m at *;rw[and_one_u64 _ (by omega) (by omega)];rw[Bool.eq_iff_iff];simp;omega
def A3y(c:X4)(b:Nat)(w:W_)(e:Ending)(w':W_):Prop:=e=.returned (.bool (has c b))/\Below w.heap.size w w'
theorem A7x(h g f d b:Nat)(w:W_)(i:P5 (h,g,f,d))(m:b<256):
 Calls prog 140 #[.agg #[.int .u64 h,.int .u64 g,.int .u64 f,.int .u64 d],.int .u8 b] w (A3y (h,g,f,d) b w):=by
 have j:=B38 (h,g,f,d) (b / 64) (by omega);have k:=A1W i (b / 64);have c:=B7q (word (h,g,f,d) (b / 64)) (b % 64) k;have a:has (h,g,f,d) b=(word (h,g,f,d) (b / 64)).testBit (b % 64):=rfl;rw[←c] at a;dsimp only at j;have l:=hid a;clear a c i;generalize word (h,g,f,d) (b / 64)=cw at *;go_enter func140,ntmps140;go_wp2;go_ret;exact⟨by rw[l.out];rfl,ba_⟩
def M5(c:X4)(w:W_)(e:Ending)(w':W_):Prop:=∃f d b a:Nat,e=.returned (.agg #[.int .u64 f,.int .u64 d,.int .u64 b,.int .u64 a])/\(f,d,b,a)=c/\Below w.heap.size w w'
theorem M5.of{c:X4}{w w':W_}(h:Below w.heap.size w w'):M5 c w (.returned (C6 c)) w':=⟨c.1,c.2.1,c.2.2.1,c.2.2.2,rfl,rfl,h⟩
theorem A7P(a b:Nat)(d:a<18446744073709551616):bits .or .u64 (a:Int) (IntKind.u64.wrap (2 ^ (b % 64)))=((a ||| 2 ^ (b % 64):Nat):Int):=by
 have c:=A5D b
 have e:IntKind.u64.wrap (2 ^ (b % 64))=((2 ^ (b % 64):Nat):Int):=by
  rw[IntKind.wrap_u64];have:(2:Int) ^ (b % 64)=((2 ^ (b % 64):Nat):Int):=by simp
  rw[this];generalize 2 ^ (b % 64)=p at *;omega
 rw[e,u64_or_nat _ _ d c]
theorem A73(g f d c b:Nat)(w:W_)(h:P5 (g,f,d,c))(A:b<256):
 Calls prog 196 #[.agg #[.int .u64 g,.int .u64 f,.int .u64 d,.int .u64 c],.int .u8 b] w (M5 (o2 (g,f,d,c) b) w):=by
 obtain⟨l,k,j,i⟩:=h;have q:b / 64=0\/b / 64=1\/b / 64=2\/b / 64=3:=by omega
 have p:=A7P g b l;have o:=A7P f b k;have n:=A7P d b j;have m:=A7P c b i;have z:=hid p;have y:=hid o;have t:=hid n;have s:=hid m;clear p o n m l k j i;rcases q with hq|hq|hq|hq
 all_goals
  have a:C6 (o2 (g,f,d,c) b)=C6 (o2 (g,f,d,c) b):=rfl
  conv at a=>rhs;unfold C6 o2;simp only[hq]
  simp at a;have r:=hid a;clear a;go_enter func196,ntmps196;go_wp2;refine bodyPost_ret (v:=C6 (o2 (g,f,d,c) b)) ?_ rfl (M5.of (ba_.alloc (by simp) _));rw[r.out];simp[results,results196,go_sem,z.out,y.out,t.out,s.out]
theorem A5j(s:B_)(k:Nat)(h:k<s.size):s.data.toList.take (k+1)=s.data.toList.take k++[s[k]]:=by
 rw[List.take_succ_eq_append_getElem (by simpa using h)];rfl
theorem V1{w:W_}{g:Nat}{t:TypeId}{a b c d:V_}(h:J0 w g t #[a,b,c,d]):
 (w.cell? ⟨g,0,none⟩=some a/\w.cell? ⟨g,1,none⟩=some b/\w.cell? ⟨g,2,none⟩=some c/\w.cell? ⟨g,3,none⟩=some d) /\
   (w.frozen? ⟨g,0,none⟩=false/\w.frozen? ⟨g,1,none⟩=false/\w.frozen? ⟨g,2,none⟩=false/\w.frozen? ⟨g,3,none⟩=false) :=
 ⟨⟨h.cell 0,h.cell 1,h.cell 2,h.cell 3⟩,h.frozen 0,h.frozen 1,h.frozen 2,h.frozen 3⟩
theorem N3{w:W_}{g:Nat}{t:TypeId}{a b c d:V_}(h:J0 w g t #[a,b,c,d])(k j i f:V_):
 J0 ((((w.setCell ⟨g,0,none⟩ k).setCell ⟨g,1,none⟩ j).setCell ⟨g,2,none⟩ i).setCell ⟨g,3,none⟩ f) g t #[k,j,i,f] :=
 (((h.set_ 0 k).set_ 1 j).set_ 2 i).set_ 3 f
theorem B6O(s:B_)(w:W_)(hs:s.size<=9223372036854775807):
 Calls prog 172 #[.string s] w (M5 (ofL s.data.toList zc) w):=by
 go_enter func172,ntmps172;go_wp2
 go_loopw [7] (λv7 wr=>∃(k:Nat)(p o n m:Nat),k<=s.size/\v7=.int .i64 k/\P5 (p,o,n,m)/\Hid ((p,o,n,m)=ofL (s.data.toList.take k) zc) /\
  J0 wr (w.heap.size+1) 112 #[.int .u64 p,.int .u64 o,.int .u64 n,.int .u64 m]/\(∃d,J0 wr w.heap.size 112 #[.int .u64 0,.int .u64 0,.int .u64 0,.int .u64 d])/\Below w.heap.size w wr) (λi _=>s.size - (intOf i).toNat)
 case atStart=>exact⟨0,0,0,0,0,by omega,rfl,N6,hid rfl,by have h:=J0.new (w.alloc (.cells #[.int .u64 0,.int .u64 0,.int .u64 0,.int .u64 0] 112)) 112 #[.int .u64 0,.int .u64 0,.int .u64 0,.int .u64 0];simpa using h,⟨0,(J0.new _ _ _).alloc _⟩,ba_.alloc (by simp) _⟩
 case round =>
  obtain⟨k,p,o,n,m,hk,rfl,g,B,b,⟨d,a⟩,z⟩:=hrel;by_cases hlt:k<s.size
  .have X:=b.lt
   have C:(s[k].toNat:Int)<256:=by have:=s[k].toNat_lt;omega
   have hbyte':s[k].toNat<256:=s[k].toNat_lt;obtain⟨⟨Q,P,O,N⟩,M,L,J,H⟩:=V1 b;have f:o2 (p,o,n,m) s[k].toNat=ofL (s.data.toList.take (k+1)) zc:=by rw[A5j s k hlt,A8h,B.out]
   have HN:=hid f;have t:=hid (A8 g s[k].toNat);have D:=hid g;have G:=hid b;have q:=hid a;have E:=hid z;have r:=z.size;clear f g b a z B;have Z:(0:Int)<=k:=by omega
   have Y:(k:Int)<s.size:=by omega
   go_wp2_with fail
   go_region_with (first
    | (go_at_call 196;refine(A73 p o n m s[k].toNat _ D.out hbyte').mono ?_;rintro e V⟨d0,d1,d2,d3,rfl,S,y⟩;have T:=hid S;have j:Below wr.heap.size wr V:=((Below.refl wr.heap.size wr).drew).trans y;have c:=G.out.kept j;obtain⟨⟨Q,P,O,N⟩,M,L,J,H⟩:=V1 c;have F:=hid c;have R:=j.size;have A:=hid j;clear S c y j))
   all_goals (
    go_wp2;go_roundw
    case rel =>
     have hok':=t.out;rw[←T.out] at hok';refine⟨k+1,d0,d1,d2,d3,by omega,by go_num,hok',hid (by rw[T.out,HN.out]),N3 F.out _ _ _ _,?_,?_⟩
     .refine⟨d,((((q.out.kept A.out).far ?_ _).far ?_ _).far ?_ _).far ?_ _⟩ <;> simp
     .exact((((E.out.trans (A.out.mono r)).setCell (by simp) _).setCell (by simp) _).setCell (by simp) _).setCell (by simp) _
    case measure=>simp[intOf];omega)
  .obtain rfl:k=s.size:=by omega
   obtain⟨⟨Q,P,O,N⟩,M,L,J,H⟩:=V1 b;obtain⟨⟨z0,z1,z2,z3⟩,t0,t1,t2,t3⟩:=V1 a;have l:(p,o,n,m)=ofL s.data.toList zc:=by rw[B.out,List.take_of_length_le (by simp)]
   have HF:=hid l;have G:=hid z;have q:=hid a;clear l B z b a g;go_wp2;refine bodyPost_ret (v:=C6 (ofL s.data.toList zc)) ?_ rfl (M5.of ?_)
   .rw[←HF.out]
    have h4:=(V1 (N3 q.out (.int .u64 p) (.int .u64 o) (.int .u64 n) (.int .u64 m))).1;obtain⟨h0,h1,h2,h3⟩:=h4;simp[results,results172,go_sem,C6,h0,h1,h2,h3]
   .exact(((G.out.setCell (lr_ _) _).setCell (lr_ _) _).setCell (lr_ _) _).setCell (lr_ _) _
def B13(w:W_)(e:Ending)(w':W_):Prop:=e=.returned (.tuple #[.agg #[.int .u64 0,.int .u64 0,.int .u64 0,.int .u64 0],m7 1])/\Below w.heap.size w w'
def B73(f n:Nat)(w:W_)(e:Ending)(w':W_):Prop:=∃d c b a:Nat,e=.returned (.tuple #[.agg #[.int .u64 d,.int .u64 c,.int .u64 b,.int .u64 a],.nilIface])/\(d,c,b,a)=A8T f n/\Below w.heap.size w w'
theorem B6F(a b:Nat)(w:W_)(h:b<a):Calls prog 224 #[.int .u8 a,.int .u8 b] w (B13 w):=by
 have c:decide (b<a)=true:=by simpa using h
 go_enter func224,ntmps224;go_wp2;refine bodyPost_ret (v:=.tuple #[.agg #[.int .u64 0,.int .u64 0,.int .u64 0,.int .u64 0],m7 1]) ?_ rfl ⟨rfl,?_⟩
 .simp[results,results224,go_sem,m7]
 .exact ba_
theorem A9b(b c:Nat)(w:W_)(h:b<=c)(hh:c<256):Calls prog 224 #[.int .u8 b,.int .u8 c] w (B73 b (c+1 - b) w):=by
 have hd:=df_ (c<b);have i1:(0:Int)<=b:=by omega
 have i2:(b:Int)<256:=by omega
 have i3:(0:Int)<=c:=by omega
 have i4:(c:Int)<256:=by omega
 go_enter func224,ntmps224;go_wp2
 go_loopw [7] (λv7 wr=>∃(k:Nat)(o n m l:Nat),b<=k/\k<=c+1/\v7=.int .i64 k/\P5 (o,n,m,l)/\Hid ((o,n,m,l)=A8T b (k - b)) /\
  J0 wr (w.heap.size+1) 112 #[.int .u64 o,.int .u64 n,.int .u64 m,.int .u64 l]/\J0 wr w.heap.size 112 #[.int .u64 0,.int .u64 0,.int .u64 0,.int .u64 0]/\Below w.heap.size w wr) (λi _=>c+1 - (intOf i).toNat)
 case atStart=>exact⟨b,0,0,0,0,by omega,by omega,by go_num,N6,hid (by rw[Nat.sub_self];rfl),by have h:=J0.new (w.alloc (.cells #[.int .u64 0,.int .u64 0,.int .u64 0,.int .u64 0] 112)) 112 #[.int .u64 0,.int .u64 0,.int .u64 0,.int .u64 0];rw[World.size_alloc] at h;exact h,(J0.new _ _ _).alloc _,ba_.alloc (by simp) _⟩
 case round =>
  obtain⟨k,o,n,m,l,hk,M,rfl,g,z,d,a,C⟩:=hrel;have HB:=hid d;have y:=hid a;have p:=hid C;obtain⟨⟨L,J,H,G⟩,_⟩:=V1 d;by_cases hlt:k<c+1
  .have B:=dt_ ((k:Int)<=c)
   have A:k<256:=by omega
   have O:(0:Int)<=k:=by omega
   have N:(k:Int)<256:=by omega
   have f:o2 (o,n,m,l) k=A8T b (k+1 - b):=by
    rw[show k+1 - b=(k - b)+1 by omega];simp only[A8T];rw[←z.out,show b+(k - b)=k by omega]
   have Z:=hid f;have s:=hid (A8 g k);have r:=hid (λW=>A73 o n m l k W g A);unfold M5 at r;clear f g z d a C;go_wp2_with fail;refine(r.out _).mono ?_;rintro e w1⟨Y,X,V,T,rfl,q,j⟩;have F:=hid q;have t:=hid (HB.out.kept j);have D:=hid (y.out.kept j);have E:=hid (p.out.trans (j.mono p.out.size));obtain⟨_,r0,r1,r2,r3⟩:=V1 t.out;clear q j L J H G;go_wp2_with fail;go_roundw
   case rel =>
    have hok':=s.out;rw[←F.out] at hok'
    exact⟨k+1,Y,X,V,T,by omega,by omega,by go_num,hok',hid (by rw[F.out,Z.out]),N3 t.out _ _ _ _,(((D.out.far (by simp) _).far (by simp) _).far (by simp) _).far (by simp) _,
     (((E.out.setCell (by simp) _).setCell (by simp) _).setCell (by simp) _).setCell (by simp) _⟩
   case measure=>simp[intOf];omega
  .obtain rfl:k=c+1:=by omega
   have B:=df_ (((c+1:Nat):Int)<=(c:Int));obtain⟨_,t0,t1,t2,t3⟩:=V1 a;have HF:=hid z.out;clear z C d a g;go_wp2;refine bodyPost_ret (v:=.tuple #[.agg #[.int .u64 o,.int .u64 n,.int .u64 m,.int .u64 l],.nilIface]) ?_ rfl ⟨o,n,m,l,rfl,HF.out,?_⟩
   .obtain⟨S,R,Q,P⟩:=(V1 (N3 y.out (.int .u64 o) (.int .u64 n) (.int .u64 m) (.int .u64 l))).1
    simp[results,results224,go_sem,S,R,Q,P]
   .exact(((p.out.setCell (lr_ _) _).setCell (lr_ _) _).setCell (lr_ _) _).setCell (lr_ _) _
theorem B5J(n i:Nat):(n / 2 ^ i % 2==1)=n.testBit i:=by
 rw[Nat.testBit_eq_decide_div_mod_eq];by_cases h:n / 2 ^ i % 2=1 <;> simp[h]
def A7A(c:X4)(b:Nat)(w:W_)(e:Ending)(w':W_):Prop:=e=.returned (.bool (has c b))/\Below w.heap.size w w'
theorem A1s(f d c a b:Nat)(w:W_)(j:P5 (f,d,c,a))(F:b<256):
 Calls prog 93 #[.agg #[.int .u64 f,.int .u64 d,.int .u64 c,.int .u64 a],.int .i64 b] w (A7A (f,d,c,a) b w):=by
 have q:=A1W j (b / 64);have l:=J0.new w 112 #[.int .u64 f,.int .u64 d,.int .u64 c,.int .u64 a];have D:b / 64<4:=by omega
 have o:(w.alloc (.cells #[.int .u64 f,.int .u64 d,.int .u64 c,.int .u64 a] 112)).cell? ⟨w.heap.size,b / 64,none⟩=some (.int .u64 (word (f,d,c,a) (b / 64):Int)):=by
  rw[l.cell];unfold word;obtain h|h|h|h:b / 64=0\/b / 64=1\/b / 64=2\/b / 64=3:=by omega
  all_goals (rw[h];simp)
 have y:Hid (∀n,n=word (f,d,c,a) (b / 64) / 2 ^ (b % 64)->(n % 2==1)=has (f,d,c,a) b):=hid (by rintro n rfl;rw[B5J];rfl);generalize word (f,d,c,a) (b / 64)=W at *;have p:W<18446744073709551616:=q;clear l j q;go_enter func93,ntmps93;go_wp2
 go_loopw [5,6] (λv5 v6 wr=>∃k x:Nat,k<=b % 64/\v6=.int .i64 k/\v5=.int .u64 x/\x<18446744073709551616/\Hid (x=W / 2 ^ k)/\Hid (Below w.heap.size w wr)) (λ_ i _=>b % 64 - (intOf i).toNat)
 case atStart=>exact⟨0,W,by omega,rfl,rfl,p,hid (by simp),hid ba_⟩
 case round =>
  obtain⟨k,x,E,rfl,rfl,C,s,t⟩:=hrel;have r:b % 64<64:=by omega
  by_cases hlt:k<b % 64
  .have A:decide (k<b % 64)=true:=by simpa using hlt
   have z:=dt_ ((k:Int)<b % 64);have B:(k:Int)<b % 64:=by omega
   go_wp2;go_roundw
   case rel=>exact⟨k+1,x / 2,by omega,by go_num,by go_num,by omega,hid (by rw[s.out,Nat.div_div_eq_div_mul,Nat.pow_succ]),t⟩
   case measure=>simp[intOf];omega
  .obtain rfl:k=b % 64:=by omega
   have A:decide (b % 64<b % 64)=false:=by simp
   have z:decide (((b % 64:Nat):Int)<(b:Int) % 64)=false:=by simp
   have g:=y.out x s.out
   have m:Hid (((x:Int) % 2==1)=has (f,d,c,a) b):=hid (by
    rw[←g,Bool.eq_iff_iff];simp;omega)
   clear g;go_wp2;go_ret;refine⟨?_,t.out⟩;rw[←m.out]
   rfl
def A9G(c:X4)(k:Nat):Nat:=(List.range k).countP λx=>has c x
theorem A64(c:X4)(k:Nat):A9G c (k+1)=A9G c k+if has c k then 1 else 0:=by
 unfold A9G;rw[List.range_succ,List.countP_append];simp[List.countP_cons]
def A3u(c:X4)(w:W_)(e:Ending)(w':W_):Prop:=e=.returned (.int .i64 (A9G c 256:Int))/\Below w.heap.size w w'
theorem A3F(h g f d:Nat)(w:W_)(j:P5 (h,g,f,d)):
 Calls prog 91 #[.agg #[.int .u64 h,.int .u64 g,.int .u64 f,.int .u64 d]] w (A3u (h,g,f,d) w):=by
 have y:=hid (J0.new w 112 #[.int .u64 h,.int .u64 g,.int .u64 f,.int .u64 d]);have s:=hid (λ(b:Nat)(hb:b<256) (W:W_)=>A1s h g f d b W j hb);clear j;generalize hc:(h,g,f,d)=c at *;have H:=hid hc;clear hc;go_enter func91,ntmps91;go_wp2
 go_loopw [3,4] (λv3 v4 wr=>∃k m:Nat,k<=256/\m<=k/\v4=.int .i64 k/\v3=.int .i64 m/\Hid (m=A9G c k)/\Hid (Below (w.heap.size+1) (w.alloc (.cells #[.int .u64 h,.int .u64 g,.int .u64 f,.int .u64 d] 112)) wr)) (λ_ i _=>256 - (intOf i).toNat)
 case atStart=>exact⟨0,0,by omega,by omega,rfl,rfl,hid (by simp[A9G]),hid br_⟩
 case round =>
  obtain⟨k,m,G,F,rfl,rfl,r,p⟩:=hrel;by_cases hlt:k<256
  .have a:=y.out.below p.out (Nat.lt_succ_self _)
   have C:=a.cell 0;have B:=a.cell 1;have A:=a.cell 2;have z:=a.cell 3;simp only[List.getElem?_toArray,List.getElem?_cons_succ,List.getElem?_cons_zero] at C B A z;have D:(k:Int)<256:=by omega
   have q:w.heap.size+1<=wr.heap.size:=by have:=p.out.size;simpa using this
   clear a;go_wp2_with fail;refine(s.out k hlt _).mono ?_;rintro e E⟨o,l⟩;have n:=hid (p.out.trans (l.mono q));clear l;cases hh:has c k with
   | true =>
     rw[hh] at o;subst o;have t:=hid hh;clear hh;go_wp2_with fail;go_roundw
     case rel=>exact⟨k+1,m+1,by omega,by omega,by go_num,by go_num,hid (by rw[A64,t.out,r.out];rfl),n⟩
     case measure=>simp[intOf];omega
   | false =>
     rw[hh] at o;subst o;have t:=hid hh;clear hh;go_wp2_with fail;go_roundw
     case rel=>exact⟨k+1,m,by omega,by omega,by go_num,rfl,hid (by rw[A64,t.out,r.out];rfl),n⟩
     case measure=>simp[intOf];omega
  .obtain rfl:k=256:=by omega
   go_wp2_with fail;go_ret;refine⟨?_,?_⟩
   .rw[←r.out];rfl
   .exact((Below.refl w.heap.size w).alloc (lr_ _) _).trans (p.out.mono (Nat.le_succ _))
theorem B1H(op:Int)(w:W_):Calls prog 95 #[.int .i64 op] w (λe w'=>e=.returned (.int .i64 (parts op:Int))/\w=w'):=by
 by_cases h2:op=3\/op=4
 .have a:parts op=2:=by simp[parts,h2]
  rw[a];rcases h2 with rfl|rfl
  .go_enter func95,ntmps95
   go_wp2;go_ret;exact⟨rfl,rfl⟩
  .go_enter func95,ntmps95
   go_wp2;go_ret;exact⟨rfl,rfl⟩
 .by_cases h1:op=5\/op=6\/op=7
  .have a:parts op=1:=by unfold parts;rw[if_neg h2,if_pos h1]
   rw[a];rcases h1 with rfl|rfl|rfl
   all_goals (
    go_enter func95,ntmps95;go_wp2;go_ret;exact⟨rfl,rfl⟩)
  .have a:parts op=0:=by unfold parts;rw[if_neg h2,if_neg h1]
   rw[a];have g:(op==3)=false:=by simp;omega
   have f:(op==4)=false:=by simp;omega
   have d:(op==5)=false:=by simp;omega
   have c:(op==6)=false:=by simp;omega
   have b:(op==7)=false:=by simp;omega
   clear h1 h2 a;go_enter func95,ntmps95;go_wp2;go_ret;exact⟨rfl,rfl⟩
def B9U(r:Int)(w:W_)(e:Ending)(w':W_):Prop:=e=.returned (.int .i64 r)/\w=w'
theorem C8(l:List Nd)(O:∀n∈l,m6 n)(N:l.length<=60)(A:Option Addr)(cap:Nat):∀(m i:Nat)(w:W_),l.length<=i+m->i<=l.length->q7 w (.slice A l.length cap) l ->
 Calls prog 60 #[.slice A l.length cap,.int .i64 i] w (B9U (eo l i) w):=by
 have J:=hid O;clear O;intro m
 induction m with
 | zero =>
   intro i w hm hi r;obtain rfl:i=l.length:=by omega
   have R:decide (l.length<=l.length)=true:=by simp
   have L:Hid (eo l l.length=-1):=hid (p9 (λ⟨u,hu⟩=>by have:=hu.lt;have:=G0 u;omega));rw[L.out];clear r;go_enter func60,ntmps60;go_wp2;go_ret;exact⟨rfl,rfl⟩
 | succ m ih =>
   intro i w hm hi r;by_cases hlt:i<l.length
   .obtain⟨A',S,Z,Q,D,g⟩:=r.open_
    obtain⟨b,V,hA,ae,a⟩:=g (by omega);injection Z with e1 _ e2
    subst e2;rw[hA] at e1;subst e1;have o:l[i]?=some (l[i]'hlt):=List.getElem?_eq_getElem hlt;generalize l[i]'hlt=n at o;obtain⟨T,_,_,_,_⟩:=a w (λ_=>rfl) i n o;have q:=hid (B7U o (J.out n (List.mem_of_getElem? o)));have j:=A5E n.op;have H:=hid ih;have HR:=hid r;have R:=df_ (l.length<=i);have d2:=df_ ((l.length:Int)<=(i:Int));have i1:(i:Int)<l.length:=by omega
    obtain⟨op,c⟩:=n;dsimp only at T q j;obtain⟨M,f⟩:∃X,X=parts op:=⟨_,rfl⟩
    have G:=hid f;rw[←f] at j;obtain⟨s,h⟩:∃X,X=eo l i:=⟨_,rfl⟩
    have E:Hid (s=eoN l M ((i+1:Nat):Int)):=hid (by rw[h,f];exact q.out);rw[←h];clear ih r g a o f h q;go_enter func60,ntmps60;go_wp2_with fail;refine(B1H op _).mono ?_;rintro e w1⟨P,rfl⟩;rw[←G.out] at P;subst P;go_wp2_with fail
    go_loopw [1,5] (λv1 v5 wr=>∃(c:Int)(k:Nat),k<=2/\v1=.int .i64 c/\v5=.int .i64 k/\c<=l.length/\(c=-1\/(i:Int)<c)/\Hid (s=eoN l k c)/\wr=w) (λ_ v _=>(intOf v).toNat)
    case atStart=>exact⟨((i:Nat):Int)+1,M,j,rfl,rfl,by omega,by omega,E,rfl⟩
    case round =>
     obtain⟨c,k,hk,rfl,rfl,ad,ac,F,rfl⟩:=hrel;cases k with
     | zero =>
       have p:Hid (s=c):=F;go_wp2_with fail;go_ret;exact⟨by rw[p.out];rfl,rfl⟩
     | succ k =>
       by_cases hneg:c<0
       .have o:=df_ (0<=c)
        have p:Hid (s=c):=hid (by rw[F.out];exact B7V _ _ _ hneg);clear hneg;go_wp2_with fail;go_ret;exact⟨by rw[p.out];rfl,rfl⟩
       .have o:=dt_ (0<=c)
        obtain⟨z,rfl⟩:∃n:Nat,c=(n:Int):=⟨c.toNat,by omega⟩
        have B:Hid (s=eoN l k (eo l z)):=hid (by rw[F.out];simp only[eoN];rw[if_neg (by omega)];simp);have y:=B93 l z;have C:=B94 l z;have d:=hid (H.out z wr (by omega) (by omega) HR.out);obtain⟨Y,t⟩:∃X,X=eo l z:=⟨_,rfl⟩
        rw[←t] at y C d B;clear t hneg;go_wp2_with fail;refine d.out.mono ?_;rintro e w2⟨rfl,rfl⟩;go_wp2_with fail;go_roundw
        case rel=>exact⟨Y,k,by omega,rfl,by go_num,y,by omega,B,by first | rfl | trivial⟩
        case measure=>simp[intOf]
   .obtain rfl:i=l.length:=by omega
    have R:decide (l.length<=l.length)=true:=by simp
    have L:Hid (eo l l.length=-1):=hid (p9 (λ⟨u,hu⟩=>by have:=hu.lt;have:=G0 u;omega));rw[L.out];clear r ih;go_enter func60,ntmps60;go_wp2;go_ret;exact⟨rfl,rfl⟩
