import Derived.Test.YthhcpbfgoofppaaGreatDoorGPrt
import Derived.Test.YthhcpbfgoofppaaGreatDoorGRm
import Derived.Test.YthhcpbfgoofppaaGreatDoorGSetI
set_option linter.unusedVariables false
set_option linter.unusedSimpArgs false
open Wf
set_option maxRecDepth 100000
set_option maxHeartbeats 8000000
open Go.Lib (hid)
open Go.Proofs.Tryz hiding parts
namespace Wf
theorem A6P(l:List (List U_)):∀s:List U_,0<s.length->l.foldl A05 s=s++Go.Lib.joinTail [32] l:=by
 induction l with
 | nil=>intro s _;simp[Go.Lib.joinTail]
 | cons x l ih =>
   intro s c;have a:A05 s x=s++([32]++x):=by unfold A05;rw[if_pos c,List.append_assoc]
   rw[List.foldl_cons,ih _ (by rw[a];simp;omega),a];simp[Go.Lib.joinTail]
theorem A4w{l:List (List U_)}(h:∀x∈l,0<x.length):Go.Lib.join l [32]=D3 l:=by
 cases l with
 | nil=>rfl
 | cons x r =>
   have a:=h x List.mem_cons_self;rw[Go.Lib.join_cons];show _=r.foldl A05 (A05 [] x);have c:A05 [] x=x:=rfl;rw[c,A6P r x a]
theorem A6Q{l:List (List U_)}(h:∀x∈l,0<x.length)(d:l≠[]):T2 (D3 l)=D3 l:=by
 cases l with
 | nil=>exact absurd rfl d
 | cons x r =>
   have a:=h x List.mem_cons_self;unfold T2;rw[if_neg];show ¬(r.foldl A05 (A05 [] x)).length=0;have c:A05 [] x=x:=rfl;rw[c,A6P r x a,List.length_append];omega
end Wf
namespace Go.Proofs.YthhcpbfgoofppaaGreatDoor.setW
open Go.RowKit Wf
theorem A71(a:List Mb)(r:a.length<=4812)(K:Nat)(hK:K<=300)(f:Mb->List U_)(hf:∀x∈a,0<(f x).length/\(f x).length<=K)(pb:Nat)(v:V_)(w:W_)(hr:Rd w 2 v (a.flatMap M2))
 (HF:Hid (∀(k:Nat)(x:Mb),a[k]?=some x->∀W,Below w.heap.size w W->Calls prog 18 #[.agg #[.pointer (some ⟨pb,0,none⟩)],.agg #[.int .i64 x.id,.string x.text]] W (λe w'=>∃t:B_,e=.returned (.string t)/\t.data.toList=f x/\Below W.heap.size W w'))):
 Calls prog 16 #[v,.func (.func 18) #[.agg #[.pointer (some ⟨pb,0,none⟩)]] #[]] w (λe w'=>∃t:B_,e=.returned (.string t)/\t.data.toList=T2 (D3 (a.map f))/\Below w.heap.size w w'):=by
 obtain⟨i0,ae,ad,ac,ab⟩:=info_parts A1L;obtain⟨Ao,cap,rfl,aG,aF,l⟩:=A0v hr;clear hr;by_cases h0:a.length=0
 .obtain rfl:=List.length_eq_zero_iff.1 h0
  have d1:((([]:List Mb).length:Int)==0)=true:=rfl;clear HF l;go_enter func16,ntmps16;go_wp2_with fail;go_ret;exact⟨_,rfl,rfl,br_⟩
 .have g:0<a.length:=by omega
  obtain⟨bs,os,rfl,af,N⟩:=l g;have aj:=hid N
  have s:∀x∈a.map f,0<x.length/\x.length<=K:=λy hy=>by
   obtain⟨x,r,rfl⟩:=List.mem_map.1 hy;exact hf x r
  have n:Hid (Go.Lib.join (a.map f) [32]=T2 (D3 (a.map f))):=hid (by
   rw[A6Q (λx r=>(s x r).1) (by intro e;rw[List.map_eq_nil_iff] at e;rw[e] at g;cases g),A4w (λx r=>(s x r).1)])
  have T:Hid ((Go.Lib.join (a.map f) [32]).length<=140737488355328):=hid (by
   have h1:=A4m [32] K (a.map f) (λx r=>(s x r).2);rw[List.length_map] at h1;have h2:a.length*(K+[32].length)<=4812*301:=Nat.mul_le_mul r (by simp;omega);omega)
  have d1:((a.length:Int)==0)=false:=by rw[beq_eq_false_iff_ne];omega
  obtain⟨R,hR⟩:∃R,R=T2 (D3 (a.map f)):=⟨_,rfl⟩
  rw[←hR] at n ⊢;clear hR s hf N l h0;go_enter func16,ntmps16;go_wp2_with fail
  go_loopw [5,13] (λv5 v13 wr=>∃(k:Nat)(d:List B_),k<=a.length/\v13=.int .i64 k/\Hid (d.map (·.data.toList)=(a.take k).map f)/\Hid (wr.ownsRow w.heap.size 9 1 v5 k (T0 d))/\Hid (Below w.heap.size w wr)) (λ_ i _=>a.length - (intOf i).toNat)
  case atStart=>exact⟨0,[],by omega,rfl,hid rfl,hid (World.ownsRow_nil _ _ _ _),hid br_⟩
  case round =>
   obtain⟨k,d,hk,rfl,HT,HO,X⟩:=hrel;have C:=X.out.size;by_cases hlt:k<a.length
   .have L:a[k]?=some (a[k]'hlt):=List.getElem?_eq_getElem hlt
    generalize a[k]'hlt=q at L;obtain⟨id,Z,tr⟩:=q;obtain⟨m0,m1⟩:=aj.out wr (λo=>X.out.cell (p:=⟨bs,o,none⟩) af) k ⟨id,Z,tr⟩ L;have D:Below wr.heap.size wr (wr.alloc (.cells #[.int .i64 id,.string Z] 53)):=ba_;have HC:=hid (HF.out k _ L _ (X.out.trans (D.mono C)));have E:=hid D;have Q:Hid (a.take (k+1)=a.take k++[⟨id,Z,tr⟩]):=hid (X3 L);have k0:(0:Int)<=k:=by omega
    have k1:(k:Int)<a.length:=by omega
    clear L D;dsimp only at HC;go_wp2_with fail;refine HC.out.mono ?_;rintro e Y⟨t,rfl,ht,c⟩;have ah:Hid ((d++[t]).map (·.data.toList)=(a.take (k+1)).map f):=hid (by rw[Q.out,List.map_append,List.map_append,HT.out,List.map_cons,List.map_cons,ht];rfl);have V:Hid (Below w.heap.size w Y):=hid ((X.out.trans (E.out.mono C)).trans (c.mono (by have:=E.out.size;omega)));have S:Hid (Y.ownsRow w.heap.size 9 1 u5 k (T0 d)):=hid (B7 (B7 HO.out E.out) c);have HX:Hid (T0 (d++[t])=T0 d++[.string t]):=hid (R8 _ _);have G:=V.out.size;clear ht c Q HC;generalize T0 d=vs at *
    go_wp2_with (at_builtin;refine wpList_append_own _ rfl (.tmp 17) (.tmp 21) _ rfl w.heap.size 9 i0 _ 1 16 underlying94 ae ad ac ab rfl (by omega) _ k vs rfl (S.out.alloc _) ⟨Y.heap.size,0,none⟩ 1 1 [.string t] rfl rfl (L9 _ _ _ _ rfl) (by intro u hu;simp at hu;subst hu;rfl) (by unfold maxLen;omega) (by omega) (by simp;omega) ?_)
    intro v' w' h M _;have al:=hid (J4 (V.out.alloc G _) (lr_ _) (by simp;omega) (S.out.alloc _) M);have ai:Hid (w'.ownsRow w.heap.size 9 1 v' (k+1) (T0 (d++[t]))):=hid (by rw[HX.out];exact h);clear h M;go_wp2_with fail;go_roundw
    case rel=>exact⟨k+1,d++[t],by omega,by go_num,ah,ai,al⟩
    case measure=>simp[intOf];omega
   .obtain rfl:k=a.length:=by omega
    have P:=HT.out;rw[List.take_length] at P;have A:d.length=a.length:=by have:=congrArg List.length P;simpa using this
    obtain⟨A',z,hv,J,aD,H⟩:=A0Y (Rd.of_own HO.out);obtain⟨bk,F,rfl,ag,O⟩:=H (by omega);rw[A] at hv;subst hv
    have HJ:Hid (Calls prog 44 #[.slice (some ⟨bk,F,none⟩) a.length z,.string ⟨#[32]⟩] wr (λe w'=>e=.returned (.string ⟨R.toArray⟩)/\Below wr.heap.size wr w')):=hid (by
     have:=B1L bk F z d ⟨#[32]⟩ wr (λj x hj=>O wr (λ_=>rfl) j x hj) ag (by omega) J (by rw[P];exact T.out);rw[P,A,show(⟨#[32]⟩:B_).data.toList=[32] from rfl,n.out] at this;exact this)
    clear O P n T A J H;go_wp2_with fail;refine HJ.out.mono ?_;rintro e Y⟨rfl,c⟩;have am:=hid (X.out.trans (c.mono C));clear c;go_wp2_with fail;go_ret;exact⟨_,rfl,rfl,am.out⟩
theorem A9y(c:List (Nat×Nat×Nat))(s:c.length<=4812)(K:Nat)(hK:K<=300)(f:(Nat×Nat×Nat)->List U_)(hf:∀x∈c,0<(f x).length/\(f x).length<=K)(v:V_)(w:W_)(hr:Rd w 3 v (c.flatMap Q0))
 (HF:Hid (∀(k:Nat)(x:(Nat×Nat×Nat)),c[k]?=some x->∀W,Below w.heap.size w W->Calls prog 27 #[.agg #[.int .i64 (x.1:Int),.int .i64 (x.2.1:Int),.int .i64 (x.2.2:Int)]] W (λe w'=>∃t:B_,e=.returned (.string t)/\t.data.toList=f x/\Below W.heap.size W w'))):
 Calls prog 28 #[v,.func (.func 27) #[] #[]] w (λe w'=>∃t:B_,e=.returned (.string t)/\t.data.toList=T2 (D3 (c.map f))/\Below w.heap.size w w'):=by
 obtain⟨i0,ad,ac,ab,aa⟩:=info_parts A1L;obtain⟨Ao,cap,rfl,aE,aD,n⟩:=A8t hr;clear hr;by_cases h0:c.length=0
 .obtain rfl:=List.length_eq_zero_iff.1 h0
  have d1:((([]:List (Nat×Nat×Nat)).length:Int)==0)=true:=rfl;clear HF n;go_enter func28,ntmps28;go_wp2_with fail;go_ret;exact⟨_,rfl,rfl,br_⟩
 .have h:0<c.length:=by omega
  obtain⟨bs,os,rfl,ae,O⟩:=n h;have ai:=hid O
  have z:∀x∈c.map f,0<x.length/\x.length<=K:=λy hy=>by
   obtain⟨x,s,rfl⟩:=List.mem_map.1 hy;exact hf x s
  have r:Hid (Go.Lib.join (c.map f) [32]=T2 (D3 (c.map f))):=hid (by
   rw[A6Q (λx s=>(z x s).1) (by intro e;rw[List.map_eq_nil_iff] at e;rw[e] at h;cases h),A4w (λx s=>(z x s).1)])
  have V:Hid ((Go.Lib.join (c.map f) [32]).length<=140737488355328):=hid (by
   have h1:=A4m [32] K (c.map f) (λx s=>(z x s).2);rw[List.length_map] at h1;have h2:c.length*(K+[32].length)<=4812*301:=Nat.mul_le_mul s (by simp;omega);omega)
  have d1:((c.length:Int)==0)=false:=by rw[beq_eq_false_iff_ne];omega
  obtain⟨R,hR⟩:∃R,R=T2 (D3 (c.map f)):=⟨_,rfl⟩
  rw[←hR] at r ⊢;clear hR z hf O n h0;go_enter func28,ntmps28;go_wp2_with fail
  go_loopw [5,13] (λv5 v13 wr=>∃(k:Nat)(g:List B_),k<=c.length/\v13=.int .i64 k/\Hid (g.map (·.data.toList)=(c.take k).map f)/\Hid (wr.ownsRow w.heap.size 9 1 v5 k (T0 g))/\Hid (Below w.heap.size w wr)) (λ_ i _=>c.length - (intOf i).toNat)
  case atStart=>exact⟨0,[],by omega,rfl,hid rfl,hid (World.ownsRow_nil _ _ _ _),hid br_⟩
  case round =>
   obtain⟨k,g,hk,rfl,HT,HO,Y⟩:=hrel;have D:=Y.out.size;by_cases hlt:k<c.length
   .have M:c[k]?=some (c[k]'hlt):=List.getElem?_eq_getElem hlt
    generalize c[k]'hlt=q at M;obtain⟨i,a,b⟩:=q;obtain⟨m0,m1,m2⟩:=ai.out wr (λo=>Y.out.cell (p:=⟨bs,o,none⟩) ae) k i a b M;have E:Below wr.heap.size wr (wr.alloc (.cells #[.int .i64 i,.int .i64 a,.int .i64 b] 70)):=ba_;have HC:=hid (HF.out k _ M _ (Y.out.trans (E.mono D)));have F:=hid E;have S:Hid (c.take (k+1)=c.take k++[⟨i,a,b⟩]):=hid (X3 M);have k0:(0:Int)<=k:=by omega
    have k1:(k:Int)<c.length:=by omega
    clear M E;dsimp only at HC;go_wp2_with fail;refine HC.out.mono ?_;rintro e Z⟨t,rfl,ht,d⟩;have ag:Hid ((g++[t]).map (·.data.toList)=(c.take (k+1)).map f):=hid (by rw[S.out,List.map_append,List.map_append,HT.out,List.map_cons,List.map_cons,ht];rfl);have X:Hid (Below w.heap.size w Z):=hid ((Y.out.trans (F.out.mono D)).trans (d.mono (by have:=F.out.size;omega)));have T:Hid (Z.ownsRow w.heap.size 9 1 u5 k (T0 g)):=hid (B7 (B7 HO.out F.out) d);have HX:Hid (T0 (g++[t])=T0 g++[.string t]):=hid (R8 _ _);have H:=X.out.size;clear ht d S HC;generalize T0 g=vs at *
    go_wp2_with (at_builtin;refine wpList_append_own _ rfl (.tmp 17) (.tmp 21) _ rfl w.heap.size 9 i0 _ 1 16 underlying94 ad ac ab aa rfl (by omega) _ k vs rfl (T.out.alloc _) ⟨Z.heap.size,0,none⟩ 1 1 [.string t] rfl rfl (L9 _ _ _ _ rfl) (by intro u hu;simp at hu;subst hu;rfl) (by unfold maxLen;omega) (by omega) (by simp;omega) ?_)
    intro v' w' l N _;have ak:=hid (J4 (X.out.alloc H _) (lr_ _) (by simp;omega) (T.out.alloc _) N);have ah:Hid (w'.ownsRow w.heap.size 9 1 v' (k+1) (T0 (g++[t]))):=hid (by rw[HX.out];exact l);clear l N;go_wp2_with fail;go_roundw
    case rel=>exact⟨k+1,g++[t],by omega,by go_num,ag,ah,ak⟩
    case measure=>simp[intOf];omega
   .obtain rfl:k=c.length:=by omega
    have Q:=HT.out;rw[List.take_length] at Q;have C:g.length=c.length:=by have:=congrArg List.length Q;simpa using this
    obtain⟨A',A,hv,L,aB,J⟩:=A0Y (Rd.of_own HO.out);obtain⟨bk,G,rfl,af,P⟩:=J (by omega);rw[C] at hv;subst hv
    have HJ:Hid (Calls prog 44 #[.slice (some ⟨bk,G,none⟩) c.length A,.string ⟨#[32]⟩] wr (λe w'=>e=.returned (.string ⟨R.toArray⟩)/\Below wr.heap.size wr w')):=hid (by
     have:=B1L bk G A g ⟨#[32]⟩ wr (λj x hj=>P wr (λ_=>rfl) j x hj) af (by omega) L (by rw[Q];exact V.out);rw[Q,C,show(⟨#[32]⟩:B_).data.toList=[32] from rfl,r.out] at this;exact this)
    clear P Q r V C L J;go_wp2_with fail;refine HJ.out.mono ?_;rintro e Z⟨rfl,d⟩;have al:=hid (Y.out.trans (d.mono D));clear d;go_wp2_with fail;go_ret;exact⟨_,rfl,rfl,al.out⟩
end Go.Proofs.YthhcpbfgoofppaaGreatDoor.setW
namespace Wf
theorem B0M{m:SS}(h:m.ok){k:Nat}{x:Mb}(c:m.ms[k]?=some x):m.place (x.id:Int)=some k:=by
 unfold SS.place;obtain⟨hlt,a⟩:=List.getElem?_eq_some_iff.1 c;rw[List.findIdx?_eq_some_iff_getElem];refine⟨hlt,by simp[a],λj d=>?_⟩;have:=List.pairwise_iff_getElem.1 h.up j k (by omega) hlt d;rw[a] at this;simp;omega
end Wf
namespace Go.Proofs.YthhcpbfgoofppaaGreatDoor.setW
open Go.RowKit Wf
def LibE(B:Nat)(w:W_):Prop:=∃(w0:W_)(ev rv:V_),w0.heap.size=B/\Below B w0 w/\A2K ev w0/\A7p rv w0/\A5z w0/\A02 w0
section
variable {B:Nat} {w w':W_}
theorem LibE.of{ev rv:V_}(f:A2K ev w)(d:A7p rv w)(c:A5z w)(a:A02 w):LibE w.heap.size w:=⟨w,ev,rv,rfl,br_,f,d,c,a⟩
theorem LibE.next(h:LibE B w)(a:Below B w w'):LibE B w':=by
 obtain⟨w0,ev,rv,f,d,c⟩:=h;exact⟨w0,ev,rv,f,d.trans a,c⟩
theorem LibE.tab(h:LibE B w):A02 w:=by obtain⟨w0,ev,rv,rfl,c,g,f,d,a⟩:=h;exact a.below c
theorem LibE.err(h:LibE B w):A5z w:=by obtain⟨w0,ev,rv,rfl,c,g,f,a,d⟩:=h;exact a.below c
theorem LibE.syn(h:LibE B w):∃ev,A2K ev w:=by obtain⟨w0,ev,rv,rfl,c,a,g,f,d⟩:=h;exact⟨ev,a.below c⟩
theorem LibE.rng(h:LibE B w):∃rv,A7p rv w:=by obtain⟨w0,ev,rv,rfl,c,g,a,f,d⟩:=h;exact⟨rv,a.below c⟩
end
theorem A4A(B b:Nat)(m:SS)(ml:List Mr)(A:V_)(w:W_)(h:M1 B b m ml A w)(Z:LibE B w)(ar:m.last<=750)(k:Nat)(x:Mb)(H:m.ms[k]?=some x):
 Calls prog 18 #[.agg #[.pointer (some ⟨b,0,none⟩)],.agg #[.int .i64 x.id,.string x.text]] w (λe w'=>∃t:B_,e=.returned (.string t)/\t.data.toList=S7 x/\Below w.heap.size w w'):=by
 have ac:=(h.ok.pos x (List.mem_of_getElem? H)).2;have g:=B0M h.ok H;obtain⟨_,_,d,c,_⟩:=T5 (h.ok.read x (List.mem_of_getElem? H));have ae:=h.hBw
 have ag:Hid (∀W,Below w.heap.size w W->Calls prog 29 #[.pointer (some ⟨b,0,none⟩),.int .i64 x.id] W (λe w'=>∃(S:Option Addr)(cap N:Nat),e=.returned (.tuple #[.slice S N cap,.nilIface])/\q7 w' (.slice S N cap) (A0 x.t)/\Below W.heap.size W w')):=hid λW f=>(A2P B b m ml A (x.id:Int) W (h.below f)).mono (by
  rintro e w'⟨P,⟨J,_⟩|⟨k',q,S,cap,L,hq,G,E⟩⟩
  .rw[g] at J;cases J
  .rw[g] at L
   cases L;rw[H] at hq;cases hq;exact⟨S,cap,_,G,E,P⟩)
 obtain⟨T,n,hT,J,ab,hw⟩:∃(T:B_)(n:Nat),(⟨(A1c (A0 x.t) x.t).1.toArray⟩:B_)=T/\m7 (A1c (A0 x.t) x.t).2=m7 (n:Int)/\n<=6/\D6 T.data.toList 0 n=(if (F0 x.t).length<=200 then F0 x.t else A0J 3):=by
  unfold A1c;rw[if_neg (by rw[A0k _ d];simp)]
  split
  .exact⟨_,0,rfl,rfl,by omega,rfl⟩
  .exact⟨_,3,rfl,rfl,by omega,rfl⟩
 have ah:Hid (∀W v,q7 W v (A0 x.t)->Calls prog 45 #[v] W (λe w'=>e=.returned (.tuple #[.string T,m7 (n:Int)])/\Below W.heap.size W w')):=hid λW v E=>(B77 (A0 x.t) x.t (λ_=>rfl) c v W E).mono (by
  rintro e w'⟨G,P⟩;rw[hT,J] at G;exact⟨G,P⟩)
 have Y:Hid (∀W,Below w.heap.size w W->Calls prog 20 #[.int .i64 x.id] W (λe w'=>e=.returned (.string ⟨(Lib.decDigits x.id).toArray⟩)/\Below W.heap.size W w')):=hid λW f=>A5w x.id (by omega) W (Z.tab.below f)
 have af:Hid (∀W,Below w.heap.size w W->Calls prog 23 #[.string T,.int .i64 0,m7 (n:Int)] W (λe w'=>∃t:B_,e=.returned (.string t)/\t.data.toList=(if (F0 x.t).length<=200 then F0 x.t else A0J 3)/\t.size<=200/\Below W.heap.size W w')):=hid λW f=>(A3z T 0 n ab (by omega) W (Z.err.below f) (Z.tab.below f)).mono (by
  rintro e w'⟨t,G,C,P⟩;rw[hw] at C;refine⟨t,G,C,?_,P⟩;have Q:t.data.toList.length=t.size:=by simp
  have h2:=A0h 3;rw[←Q,C]
  split <;> omega)
 have V:Hid (∀D t:B_,D.data.toList=Lib.decDigits x.id->t.data.toList=(if (F0 x.t).length<=200 then F0 x.t else A0J 3)->(D++⟨#[58]⟩++t).data.toList=S7 x):=hid λD t Q h2=>by
  rw[L0,L0,Q,h2]
  rfl
 obtain⟨D,hD⟩:∃D:B_,D=⟨(Lib.decDigits x.id).toArray⟩:=⟨_,rfl⟩
 have j:D.data.toList=Lib.decDigits x.id:=by rw[hD]
 have au:D.size<=5:=by
  have Q:D.data.toList.length=D.size:=by simp
  have h2:=A1O (n:=x.id) (by omega);rw[←Q,j];exact h2
 rw[←hD] at Y;have ai:=hid j;generalize (if (F0 x.t).length<=200 then F0 x.t else A0J 3)=R at *;generalize A0 x.t=F at *;generalize S7 x=IW at *;generalize m7 (n:Int)=EV at *;generalize x.id=id at *;generalize x.text=tx at *;have z:Hid (Below w.heap.size w ((w.alloc (.cells #[.pointer (some ⟨b,0,none⟩)] 28)).alloc (.cells #[.int .i64 id,.string tx] 53))):=hid (ba_.alloc (by simp) _)
 have l:Hid (∀W,Below ((w.alloc (.cells #[.pointer (some ⟨b,0,none⟩)] 28)).alloc (.cells #[.int .i64 id,.string tx] 53)).heap.size ((w.alloc (.cells #[.pointer (some ⟨b,0,none⟩)] 28)).alloc (.cells #[.int .i64 id,.string tx] 53)) W->W.cell? ⟨w.heap.size+1,0,none⟩=some (.int .i64 id)):=hid λW f=>(f.cell (p:=⟨w.heap.size+1,0,none⟩) (by simp)).trans (by
  simp)
 clear h Z H ac g d c ae hT J hw j hD;go_enter func18,ntmps18;go_wp2_with fail;refine(ag.out _ z.out).mono ?_;rintro e w1⟨S,cap,N,rfl,E,a⟩;have X:=hid E;have y:=hid a;have c1:=l.out w1 a;have o:=hid (z.out.trans (a.mono z.out.size));clear E a;go_wp2_with fail;refine(ah.out _ _ X.out).mono ?_;rintro e w2⟨rfl,i⟩;have c2:=l.out w2 (y.out.trans (i.mono y.out.size));have s:=hid (o.out.trans (i.mono o.out.size));clear i c1 y o X l;go_wp2_with fail;refine(Y.out _ s.out).mono ?_;rintro e w3⟨rfl,O⟩;have r:=hid (s.out.trans (O.mono s.out.size));clear O;go_wp2_with fail;refine(af.out _ r.out).mono ?_;rintro e w4⟨t,rfl,C,hz,M⟩;have HT:=hid C;have aj:=hid (r.out.trans (M.mono r.out.size));clear C M;go_wp2_with fail;go_ret;exact⟨_,rfl,V.out D t ai.out HT.out,aj.out⟩
theorem B9x(i a b:Nat)(N:i<=1000)(M:a<=1000)(L:b<=1000)(w:W_)(E:A02 w):
 Calls prog 27 #[.agg #[.int .i64 i,.int .i64 a,.int .i64 b]] w (λe w'=>∃t:B_,e=.returned (.string t)/\t.data.toList=A08 (i,a,b)/\Below w.heap.size w w'):=by
 have key:∀n:Nat,n<=1000->∃D:B_,D.data.toList=Lib.decDigits n/\D.size<=5/\Hid (∀W,Below w.heap.size w W->Calls prog 20 #[.int .i64 n] W (λe w'=>e=.returned (.string D)/\Below W.heap.size W w')):=by
  intro n S;refine⟨⟨(Lib.decDigits n).toArray⟩,rfl,?_,hid λW l=>A5w n S W (E.below l)⟩;have:=A1O (n:=n) (by omega)
  simpa[ByteArray.size] using this
 obtain⟨X,J,aa,R⟩:=key i N;obtain⟨Y,H,V,Q⟩:=key a M;obtain⟨Z,G,T,O⟩:=key b L
 have p:Hid ((X++⟨#[58]⟩++Y++⟨#[45]⟩++Z).data.toList=A08 (i,a,b)):=hid (by
  rw[L0,L0,L0,L0,J,H,G]
  rfl)
 generalize A08 (i,a,b)=HW at *;have f:=J0.new w 70 #[.int .i64 i,.int .i64 a,.int .i64 b];have j:Below w.heap.size w (w.alloc (.cells #[.int .i64 i,.int .i64 a,.int .i64 b] 70)):=ba_;obtain⟨c,k⟩:∃c,c=w.alloc (.cells #[.int .i64 i,.int .i64 a,.int .i64 b] 70):=⟨_,rfl⟩
 have z:=hid k;rw[←k] at f j
 have HS:Hid (∀w',Hid (Below c.heap.size c w')->(w'.cell? ⟨w.heap.size,0,none⟩=some (.int .i64 i)/\w'.cell? ⟨w.heap.size,1,none⟩=some (.int .i64 a)/\w'.cell? ⟨w.heap.size,2,none⟩=some (.int .i64 b)/\Hid (Below c.heap.size c w'))):=hid λw' F=>by
  have y:=f.kept F.out;exact⟨by simpa using y.cell 0,by simpa using y.cell 1,by simpa using y.cell 2,F⟩
 have A:Hid (∀q r,Hid (Below c.heap.size c q)->Below q.heap.size q r->Hid (Below c.heap.size c r)):=hid λq r a b=>hid (a.out.trans (b.mono a.out.size))
 have d:=hid j;have HX':Hid (∀W,Hid (Below c.heap.size c W)->Calls prog 20 #[.int .i64 i] W (λe w'=>e=.returned (.string X)/\Below W.heap.size W w')):=hid λW l=>R.out W (d.out.trans (l.out.mono d.out.size))
 have HY':Hid (∀W,Hid (Below c.heap.size c W)->Calls prog 20 #[.int .i64 a] W (λe w'=>e=.returned (.string Y)/\Below W.heap.size W w')):=hid λW l=>Q.out W (d.out.trans (l.out.mono d.out.size))
 have HZ':Hid (∀W,Hid (Below c.heap.size c W)->Calls prog 20 #[.int .i64 b] W (λe w'=>e=.returned (.string Z)/\Below W.heap.size W w')):=hid λW l=>O.out W (d.out.trans (l.out.mono d.out.size))
 have af:Hid (Below c.heap.size c c.drew):=hid br_.drew;have o:(⟨#[58]⟩:B_).size=1:=rfl;have s:(⟨#[45]⟩:B_).size=1:=rfl;have ae:=λW=>run_string_add_sum (P:=prog) W X ⟨#[58]⟩ (by rw[o];omega)
 have ad:=λW=>run_string_add_sum (P:=prog) W (X++⟨#[58]⟩) Y (by rw[ByteArray.size_append,o];omega)
 have ac:=λW=>run_string_add_sum (P:=prog) W (X++⟨#[58]⟩++Y) ⟨#[45]⟩ (by rw[ByteArray.size_append,ByteArray.size_append,o,s];omega)
 have ab:=λW=>run_string_add_sum (P:=prog) W (X++⟨#[58]⟩++Y++⟨#[45]⟩) Z (by rw[ByteArray.size_append,ByteArray.size_append,ByteArray.size_append,o,s];omega)
 clear o s;clear key J H G N M L E f j R Q O k;go_enter func27,ntmps27;go_wp2_with fail;rw[←z.out]
 go_region_held3 (λw'=>w'.cell? ⟨w.heap.size,0,none⟩=some (.int .i64 i)/\w'.cell? ⟨w.heap.size,1,none⟩=some (.int .i64 a)/\w'.cell? ⟨w.heap.size,2,none⟩=some (.int .i64 b)/\Hid (Below c.heap.size c w'))
  (exact HS.out _ (by assumption))
  (first
    | (go_at_call_of 20 (Value.int .i64 i);refine(HX'.out _ (by assumption)).mono ?_;rintro e C⟨rfl,g⟩;have h:=A.out _ _ (by assumption) g)
    | (go_at_call_of 20 (Value.int .i64 a);refine(HY'.out _ (by assumption)).mono ?_;rintro e C⟨rfl,g⟩;have h:=A.out _ _ (by assumption) g)
    | (go_at_call_of 20 (Value.int .i64 b);refine(HZ'.out _ (by assumption)).mono ?_;rintro e C⟨rfl,g⟩;have h:=A.out _ _ (by assumption) g))
 go_wp2_with fail;go_ret;exact⟨_,rfl,p.out,d.out.trans (h.out.mono d.out.size)⟩
theorem B6q(W:W_):(Instr.typeAssert .nilIface 20 49 true).run prog W=.ok (.tuple #[.agg #[],.bool false]) W:=by kernel_rfl
theorem B2O(W:W_):(Instr.typeAssert (.iface 49 (.agg #[])) 20 49 true).run prog W=.ok (.tuple #[.agg #[],.bool true]) W:=by kernel_rfl
theorem A5(p:Addr)(w:W_):
 CallsD prog 15 #[.pointer (some p)] .returning w λe d w'=>e=.returned (.tuple #[])/\d=.returning/\Below w.heap.size w w':=by
 refine callsD_of_wpS func15 rfl λa cs f=>?_
 rw[show(#[.pointer (some p)]:Array V_)++Array.replicate (Tryz.f15.ntmps - (#[.pointer (some p)]:Array V_).size) undef=#[.pointer (some p),undef,undef,undef,undef,undef,undef,undef,undef] from by rw[ntmps15];rfl];apply wpS_seq;apply wpS_region;have c:=B6q;simp[wpOpsS,go_sem,recoverD,f,Exit.thenS,c];refine wpS_of_wp ?_;go_wp2;cases a
 simp_all[bodyPostS,results,results15]
 exact ba_
theorem o3(P:Nat)(v:V_)(w:W_)(c:J0 w P 9 #[v]):
 CallsD prog 15 #[.pointer (some ⟨P,0,none⟩)] (.panicking [{ v:=A1X,recovered:=false }]) w λe i w'=>e=.returned (.tuple #[])/\i=.panicking [{ v:=A1X,recovered:=true }] /\
  J0 w' P 9 #[.string ⟨#[98,97,100]⟩]/\Below P w w':=by
 have o:=c.lt;have f:=c.alloc (.cells #[] 49);have h:=f.cell 0;have n:=f.frozen 0;simp only[List.getElem?_toArray,List.getElem?_cons_zero] at h;have l:=hid c;clear c f;unfold A1X;refine callsD_of_wpS func15 rfl λg cs k=>?_
 rw[show(#[.pointer (some ⟨P,0,none⟩)]:Array V_)++Array.replicate (Tryz.f15.ntmps - (#[.pointer (some ⟨P,0,none⟩)]:Array V_).size) undef=#[.pointer (some ⟨P,0,none⟩),undef,undef,undef,undef,undef,undef,undef,undef] from by rw[ntmps15];rfl];apply wpS_seq;apply wpS_region;have a:=B2O;simp[wpOpsS,go_sem,recoverD,k,Exit.thenS,a];refine wpS_of_wp ?_;clear a;go_wp2_with fail;have j:=(l.out.set_ 0 (.string ⟨#[98,97,100]⟩)).alloc (.cells #[] 49);have d:Below P w ((w.setCell ⟨P,0,none⟩ (.string ⟨#[98,97,100]⟩)).alloc (.cells #[] 49)):=((Below.refl P w).setCell (lr_ _) (p:=⟨P,0,none⟩) _).alloc (by simp;omega) _;refine⟨rfl,.panicking [{ v:=.iface 49 (.agg #[]),recovered:=true }],rfl,.tuple #[],?_,rfl,rfl,j,d⟩;simp[results,results15]
def j4(r:List U_)(B b:Nat)(m:SS)(w:W_)(e:Ending)(w':W_):Prop :=
 ∃(t:B_)(a:List Mr) (A:V_),e=.returned (.string t)/\t.data.toList=r/\M1 B b m a A w'/\SK B b w w'
theorem M1.far{B b P o:Nat}{m:SS}{c:List Mr}{A u:V_}{W:W_}{t:TypeId}{cs:Array V_}(h:M1 B b m c A W)(d:J0 W P t cs)(i:b≠P)(g:t≠97)(f:t≠114):M1 B b m c A (W.setCell ⟨P,o,none⟩ u) :=
 ⟨h.hB,h.ms,h.blk.far (p:=⟨P,o,none⟩) i u,h.own.kept (R3 W P o u) (.inr (C2 h.own d g)),λq a=>⟨World.ownsRow.kept (h.mem q a).1 (R3 W P o u) (.inr (C2 (h.mem q a).1 d f)),(h.mem q a).2⟩,h.ok,h.lastb⟩
structure D7 (B b:Nat) (m:SS) (w W:W_):Prop where
 set:∃ml A,M1 B b m ml A W
 sk:SK B b w W
 lt:b<w.heap.size
 ses:J0 W w.heap.size 28 #[.pointer (some ⟨b,0,none⟩)]
 out:J0 W (w.heap.size+1) 9 #[.string ⟨#[]⟩]
 lib:LibE B W
section
variable {B b:Nat} {m m':SS} {w W W':W_}
theorem D7.next(h:D7 B b m w W)(d:∃c A,M1 B b m' c A W')(a:SK B b W W'):D7 B b m' w W' :=
 ⟨d,h.sk.trans a,h.lt,a.keep _ _ _ (by have:=h.lt;omega) (by decide) h.ses,a.keep _ _ _ (by have:=h.lt;omega) (by decide) h.out,h.lib.next a.bel⟩
theorem D7.below(h:D7 B b m w W)(c:Below W.heap.size W W'):D7 B b m w W':=by
 obtain⟨d,A,a⟩:=h.set;exact h.next ⟨d,A,a.below c⟩ (SK.of_below a.hBw c)
theorem D7.start{c:List Mr}{A:V_}(h:M1 B b m c A w)(d:LibE B w):D7 B b m w ((w.alloc (.cells #[.pointer (some ⟨b,0,none⟩)] 28)).alloc (.cells #[.string ⟨#[]⟩] 9)):=by
 have a:Below w.heap.size w ((w.alloc (.cells #[.pointer (some ⟨b,0,none⟩)] 28)).alloc (.cells #[.string ⟨#[]⟩] 9)):=ba_.alloc (by simp) _;exact⟨⟨c,A,h.below a⟩,SK.of_below h.hBw a,h.lt,(J0.new w _ _).alloc _,J0.new_at _ _ _ _ (by simp),d.next (a.mono h.hBw)⟩
theorem D7.cell(h:D7 B b m w W):W.cell? ⟨w.heap.size+1,0,none⟩=some (.string ⟨#[]⟩):=by have:=h.out.cell 0;simpa using this
theorem D7.cellS(h:D7 B b m w W):W.cell? ⟨w.heap.size,0,none⟩=some (.pointer (some ⟨b,0,none⟩)):=by have:=h.ses.cell 0;simpa using this
theorem D7.frozen(h:D7 B b m w W):W.frozen? ⟨w.heap.size+1,0,none⟩=false:=h.out.frozen 0
theorem D7.fin(h:D7 B b m w W)(t:B_)(c:W_)(d:Below (W.setCell ⟨w.heap.size+1,0,none⟩ (.string t)).heap.size (W.setCell ⟨w.heap.size+1,0,none⟩ (.string t)) c):
 c.cell? ⟨w.heap.size+1,0,none⟩=some (.string t)/\∃a A,M1 B b m a A c/\SK B b w c:=by
 obtain⟨a,A,f⟩:=h.set;have hlt:=h.lt;have g:M1 B b m a A (W.setCell ⟨w.heap.size+1,0,none⟩ (.string t)):=f.far h.out (by omega) (by decide) (by decide);have n:J0 (W.setCell ⟨w.heap.size+1,0,none⟩ (.string t)) (w.heap.size+1) 9 #[.string t]:=h.out.set_ 0 (.string t);have l:SK B b w (W.setCell ⟨w.heap.size+1,0,none⟩ (.string t)):=⟨h.sk.bel.setCell (p:=⟨w.heap.size+1,0,none⟩) (by have:=f.hB;show B<=w.heap.size+1;omega) _,λi cs k q o j=>(h.sk.keep i cs k q o j).far (p:=⟨w.heap.size+1,0,none⟩) (by have:=j.lt;show i≠w.heap.size+1;omega) _⟩
 refine⟨by have:=(n.kept d).cell 0;simpa using this,a,A,g.below d,l.trans (SK.of_below g.hBw d)⟩
theorem D7.bad{a:List Mr}{A:V_}(h:M1 B b m a A w)(g:Below w.heap.size w W)(c:W_)(f:Below (w.heap.size+1) W c):∃a A,M1 B b m a A c/\SK B b w c:=by
 have d:Below w.heap.size w c:=g.trans (f.mono (by omega));exact⟨a,A,h.below d,SK.of_below h.hBw d⟩
end
theorem Z0{s:B_}{l:List U_}(h:s.data.toList≠l):(s.toList==l)=false:=by
 rw[beq_eq_false_iff_ne,Lib.toList_data];exact h
theorem mkf:∀(a:Fn)(first cap:Array V_) (w:W_),(Instr.makeFunc a first cap).run prog w=.ok (.func a first cap) w:=λ_ _ _ _=>rfl
def NL(s:B_):Prop:=s.size<=3000/\s.data.toList≠[108,105,115,116]/\s.data.toList≠[111,110]/\s.data.toList≠[111,102,102]/\s.data.toList≠[116,114,105,101,100]
theorem NL.at{s:B_}(h:NL s):s.size<=3000/\(s.toList==[108,105,115,116])=false/\(s.toList==[111,110])=false/\(s.toList==[111,102,102])=false/\(s.toList==[116,114,105,101,100])=false :=
 ⟨h.1,Z0 h.2.1,Z0 h.2.2.1,Z0 h.2.2.2.1,Z0 h.2.2.2.2⟩
theorem A0K{c:U_}{s a b:B_}(h:O4 c s.data.toList=some (a.data.toList,b.data.toList)):b.size<s.size:=by
 have:=A1n h;have f:s.data.toList.length=s.size:=by simp
 have d:b.data.toList.length=b.size:=by simp
 omega
theorem A51(s:B_)(f:s.size<=3000){c:U_}(a:O4 c s.data.toList=none)(W:W_):Calls prog 8 #[.string s,.string ⟨#[c]⟩] W (λe w'=>e=.returned (.tuple #[.string s,.string ⟨#[]⟩,.bool false])/\Below W.heap.size W w'):=by
 refine(B8V s c (by omega) W).mono ?_;rintro e w'⟨d,⟨_,rfl⟩|⟨x,y,h,_⟩⟩
 .exact⟨rfl,d⟩
 .rw[a] at h;cases h
theorem l7(s a b:B_)(j:s.size<=3000){c:U_}(d:O4 c s.data.toList=some (a.data.toList,b.data.toList))(W:W_):Calls prog 8 #[.string s,.string ⟨#[c]⟩] W (λe w'=>e=.returned (.tuple #[.string a,.string b,.bool true])/\Below W.heap.size W w'):=by
 refine(B8V s c (by omega) W).mono ?_;rintro e w'⟨f,⟨h,_⟩|⟨x,y,h,_,rfl⟩⟩
 .rw[d] at h;cases h
 .rw[d] at h
  injection h with h
  injection h with h1 h2
  have i:a=x:=ByteArray.ext (Array.toList_inj.1 h1);have g:b=y:=ByteArray.ext (Array.toList_inj.1 h2);rw[i,g];exact⟨rfl,f⟩
theorem B5b{n:Nat}(h:n<=1000):∃D:B_,D=⟨(Lib.decDigits n).toArray⟩/\D.data.toList=Lib.decDigits n/\D.size<=5:=by
 refine⟨_,rfl,rfl,?_⟩;have:=A1O (n:=n) (by omega)
 simpa[ByteArray.size] using this
theorem B0X(B b:Nat)(m:SS)(z:List Mr)(A:V_)(w:W_)(h:M1 B b m z A w)(s:LibE B w)(d:m.small 3000):
 Calls prog 10 #[.agg #[.pointer (some ⟨b,0,none⟩)],.string ⟨#[116,114,105,101,100]⟩] w (j4 (Lib.decDigits m.tried) B b (m) w):=by
 have E:=mkf;have c:=hid (D7.start h s);have F:=h.hBw;unfold j4;have i:=d.tried;have J:=hid λW (q:D7 B b m w W)=>(by obtain⟨k,N,C⟩:=q.set;exact B3l B b m k N W C:Calls prog 21 #[.pointer (some ⟨b,0,none⟩)] W (λe w'=>e=.returned (.int .i64 m.tried)/\W=w'))
 obtain⟨D,t,r,G⟩:=B5b (n:=m.tried) (by omega);have L:Hid (∀W,D7 B b m w W->Calls prog 20 #[.int .i64 m.tried] W (λe w'=>e=.returned (.string D)/\Below W.heap.size W w')):=hid λW q=>by rw[t];exact A5w m.tried (by omega) W q.lib.tab
 clear h s d t i
 go_enter_defers func10,ntmps10
 go_wp2_with fail;refine(J.out _ c.out).mono ?_;rintro e Q⟨rfl,rfl⟩;go_wp2_with fail;refine(L.out _ c.out).mono ?_;rintro e P⟨rfl,g⟩;have a:=hid (c.out.below g);have S:=a.out.cell;have O:=a.out.frozen;clear g;go_wp2_with fail;refine leaves_cons (f:=15) (args:=#[.pointer (some ⟨w.heap.size+1,0,none⟩)]) (by simp) (by simp[go_sem]) ?_;refine(A5 _ _).mono ?_;rintro e R y⟨rfl,rfl,p⟩;obtain⟨H,j,M,l,o⟩:=a.out.fin D y p;simp[Leaves,settle,results,results10,go_sem,H];exact⟨r,⟨j,M,l⟩,o⟩
theorem B7L(B b:Nat)(m:SS)(t:List Mr)(A:V_)(w:W_)(h:M1 B b m t A w)(q:LibE B w)(j:m.small 3000):
 Calls prog 10 #[.agg #[.pointer (some ⟨b,0,none⟩)],.string ⟨#[111,110]⟩] w (j4 (A1d) B b ({ m with on:=true }) w):=by
 have z:=mkf;have p:=hid (D7.start h q);have D:=h.hBw;unfold j4
 have F:Hid (∀W,D7 B b m w W->Calls prog 19 #[.pointer (some ⟨b,0,none⟩),.bool true] W (λe w'=>e=.returned (.tuple #[])/\D7 B b { m with on:=true } w w')):=hid λW r=>by
  obtain⟨i,J,y⟩:=r.set;refine(A5y B b m i J true W y).mono ?_;rintro e w'⟨rfl,g,H,l,C⟩;exact⟨rfl,r.next ⟨g,H,l⟩ C⟩
 clear h q j
 go_enter_defers func10,ntmps10
 go_wp2_with fail;refine(F.out _ p.out).mono ?_;rintro e M⟨rfl,c⟩;have a:=hid c;have O:=a.out.cell;have L:=a.out.frozen;clear c;go_wp2_with fail;refine leaves_cons (f:=15) (args:=#[.pointer (some ⟨w.heap.size+1,0,none⟩)]) (by simp) (by simp[go_sem]) ?_;refine(A5 _ _).mono ?_;rintro e N s⟨rfl,rfl,o⟩;obtain⟨E,d,G,k,n⟩:=a.out.fin ⟨#[111,107]⟩ s o;simp[Leaves,settle,results,results10,go_sem,E];exact⟨rfl,⟨d,G,k⟩,n⟩
theorem B4u(B b:Nat)(m:SS)(t:List Mr)(A:V_)(w:W_)(h:M1 B b m t A w)(q:LibE B w)(j:m.small 3000):
 Calls prog 10 #[.agg #[.pointer (some ⟨b,0,none⟩)],.string ⟨#[111,102,102]⟩] w (j4 (A1d) B b ({ m with on:=false }) w):=by
 have z:=mkf;have p:=hid (D7.start h q);have D:=h.hBw;unfold j4
 have F:Hid (∀W,D7 B b m w W->Calls prog 19 #[.pointer (some ⟨b,0,none⟩),.bool false] W (λe w'=>e=.returned (.tuple #[])/\D7 B b { m with on:=false } w w')):=hid λW r=>by
  obtain⟨i,J,y⟩:=r.set;refine(A5y B b m i J false W y).mono ?_;rintro e w'⟨rfl,g,H,l,C⟩;exact⟨rfl,r.next ⟨g,H,l⟩ C⟩
 clear h q j
 go_enter_defers func10,ntmps10
 go_wp2_with fail;refine(F.out _ p.out).mono ?_;rintro e M⟨rfl,c⟩;have a:=hid c;have O:=a.out.cell;have L:=a.out.frozen;clear c;go_wp2_with fail;refine leaves_cons (f:=15) (args:=#[.pointer (some ⟨w.heap.size+1,0,none⟩)]) (by simp) (by simp[go_sem]) ?_;refine(A5 _ _).mono ?_;rintro e N s⟨rfl,rfl,o⟩;obtain⟨E,d,G,k,n⟩:=a.out.fin ⟨#[111,107]⟩ s o;simp[Leaves,settle,results,results10,go_sem,E];exact⟨rfl,⟨d,G,k⟩,n⟩
theorem B0a(B b:Nat)(m:SS)(r:List Mr)(A:V_)(s:B_)(n:NL s)(p:O4 32 s.data.toList=none)(w:W_)(h:M1 B b m r A w)(o:LibE B w)(g:m.small 3000):
 Calls prog 10 #[.agg #[.pointer (some ⟨b,0,none⟩)],.string s] w (j4 (A2t) B b (m) w):=by
 have y:=mkf;have l:=hid (D7.start h o);have z:=h.hBw;unfold j4;obtain⟨t,N,M,L,J⟩:=n.at;clear n;have D:=hid λW=>A51 s t p W
 clear h o g p
 go_enter_defers func10,ntmps10
 go_wp2_with fail;refine(D.out _).mono ?_;rintro e G⟨rfl,c⟩;have a:=hid (l.out.below c);have O:=a.out.cell;have F:=a.out.frozen;clear c;go_wp2_with fail;refine leaves_cons (f:=15) (args:=#[.pointer (some ⟨w.heap.size+1,0,none⟩)]) (by simp) (by simp[go_sem]) ?_;refine(A5 _ _).mono ?_;rintro e H q⟨rfl,rfl,k⟩;obtain⟨C,d,E,i,j⟩:=a.out.fin ⟨#[98,97,100]⟩ q k;simp[Leaves,settle,results,results10,go_sem,C];exact⟨rfl,⟨d,E,i⟩,j⟩
theorem B0Z(B b:Nat)(m:SS)(D:List Mr)(A:V_)(s:B_)(y:NL s)(c rb:B_)(l:O4 32 s.data.toList=some (c.data.toList,rb.data.toList))(t:c.data.toList≠[97,100,100])(r:c.data.toList≠[114,101,109,111,118,101])(q:c.data.toList≠[115,99,97,110])(p:c.data.toList≠[112,117,116])(w:W_)(h:M1 B b m D A w)(z:LibE B w)(i:m.small 3000):
 Calls prog 10 #[.agg #[.pointer (some ⟨b,0,none⟩)],.string s] w (j4 (A2t) B b (m) w):=by
 have F:=mkf;have o:=hid (D7.start h z);have G:=h.hBw;unfold j4;obtain⟨E,e1,Z,Y,X⟩:=y.at;clear y;have V:=Z0 t;have T:=Z0 r;have S:=Z0 q;have R:=Z0 p;have Q:=A0K l;have J:=hid λW=>l7 s _ rb E l W
 clear l;clear h z i t r q p
 go_enter_defers func10,ntmps10
 go_wp2_with fail;refine(J.out _).mono ?_;rintro e N⟨rfl,d⟩;have a:=hid (o.out.below d);have c1:=a.out.cell;have M:=a.out.frozen;have P:=a.out.cellS;clear d;go_wp2_with fail;refine leaves_cons (f:=15) (args:=#[.pointer (some ⟨w.heap.size+1,0,none⟩)]) (by simp) (by simp[go_sem]) ?_;refine(A5 _ _).mono ?_;rintro e O C⟨rfl,rfl,n⟩;obtain⟨H,g,L,j,k⟩:=a.out.fin ⟨#[98,97,100]⟩ C n;simp[Leaves,settle,results,results10,go_sem,H];exact⟨rfl,⟨g,L,j⟩,k⟩
theorem B4v(B b:Nat)(m:SS)(ml:List Mr)(A:V_)(s:B_)(S:NL s)(rb:B_)(N:O4 32 s.data.toList=some ((⟨#[97,100,100]⟩:B_).data.toList,rb.data.toList))(w:W_)(h:M1 B b m ml A w)(V:LibE B w)(g:m.small 3000):
 Calls prog 10 #[.agg #[.pointer (some ⟨b,0,none⟩)],.string s] w (j4 (D6 (Lib.decDigits (m.added rb).1) (m.added rb).2.1 (m.added rb).2.2.toNat) B b (m.add rb) w):=by
 have ad:=mkf;have Q:=hid (D7.start h V);have af:=h.hBw;unfold j4;obtain⟨H,e1,e2,e3,e4⟩:=S.at;clear S;have hz:=A0K N;have HC:=hid λW=>l7 s _ rb H N W
 clear N;obtain⟨a1,a2,a3,a4⟩:=A2J g (by omega) rb;have J:=g.last
 have Y:Hid (∀W,D7 B b m w W->Calls prog 22 #[.pointer (some ⟨b,0,none⟩),.string rb] W (λe w'=>e=.returned (.tuple #[.int .i64 ((m.added rb).1:Int),.int .i64 ((m.added rb).2.1:Int),m7 (m.added rb).2.2])/\D7 B b (m.add rb) w w')):=hid λW d=>by
  obtain⟨E,A',H⟩:=d.set;obtain⟨ev,M⟩:=d.lib.syn;refine(B8J B b m E A' rb W H M (by omega)).mono ?_;rintro e w'⟨rfl,C,A2,G,hk⟩;exact⟨rfl,d.next ⟨C,A2,G⟩ hk⟩
 have k:(m.added rb).2.2=(((m.added rb).2.2.toNat:Nat):Int):=by omega
 have c:(m.added rb).2.2.toNat<=6:=by omega
 rw[k] at Y;obtain⟨D,X,q,ag⟩:=B5b (n:=(m.added rb).1) (by omega);have HI:Hid (∀W,D7 B b (m.add rb) w W->Calls prog 20 #[.int .i64 ((m.added rb).1:Int)] W (λe w'=>e=.returned (.string D)/\Below W.heap.size W w')):=hid λW d=>by rw[X];exact A5w _ (by omega) W d.lib.tab
 have P:Hid (∀W,D7 B b (m.add rb) w W->Calls prog 23 #[.string D,.int .i64 ((m.added rb).2.1:Int),m7 (((m.added rb).2.2.toNat:Nat):Int)] W (λe w'=>∃t:B_,e=.returned (.string t)/\t.data.toList=D6 (Lib.decDigits (m.added rb).1) (m.added rb).2.1 (m.added rb).2.2.toNat/\Below W.heap.size W w')):=hid λW d=>by
  have:=A3z D (m.added rb).2.1 (m.added rb).2.2.toNat c (by omega) W d.lib.err d.lib.tab;rw[q] at this;exact this
 clear h V g k c X q a3 a4;generalize D6 (Lib.decDigits (m.added rb).1) (m.added rb).2.1 (m.added rb).2.2.toNat=R at *;generalize m7 (((m.added rb).2.2.toNat:Nat):Int)=EV at *;generalize (m.added rb).1=n1 at *;generalize (m.added rb).2.1=n2 at *;generalize m.add rb=m2 at *
 go_enter_defers func10,ntmps10
 go_wp2_with fail;refine(HC.out _).mono ?_;rintro e w1⟨rfl,p⟩;have a:=hid (Q.out.below p);have c1:=a.out.cell;have Z:=a.out.frozen;have s1:=a.out.cellS;clear p;go_wp2_with fail;refine(Y.out _ a.out).mono ?_;rintro e w2⟨rfl,j⟩;have y:=hid j;clear j c1 Z s1;go_wp2_with fail;refine(HI.out _ y.out).mono ?_;rintro e w3⟨rfl,o⟩;have r:=hid (y.out.below o);clear o;go_wp2_with fail;refine(P.out _ r.out).mono ?_;rintro e w4⟨t,rfl,T,l⟩;have HT:=hid T;have i:=hid (r.out.below l);have c4:=i.out.cell;have z4:=i.out.frozen;clear T l;go_wp2_with fail;refine leaves_cons (f:=15) (args:=#[.pointer (some ⟨w.heap.size+1,0,none⟩)]) (by simp) (by simp[go_sem]) ?_;refine(A5 _ _).mono ?_;rintro e u' w9⟨rfl,rfl,O⟩;obtain⟨c9,z,A9,F,L⟩:=i.out.fin t w9 O;simp[Leaves,settle,results,results10,go_sem,c9];exact⟨HT.out,⟨z,A9,F⟩,L⟩
theorem A6j(B b:Nat)(m:SS)(ml:List Mr)(A:V_)(s:B_)(nl:NL s)(rb:B_)(T:O4 32 s.data.toList=some ((⟨#[115,99,97,110]⟩:B_).data.toList,rb.data.toList))(d:List (Nat×Nat×Nat))(p:d.length<=4812)(c:∀q∈d,q.1<=750/\q.2.1<=400/\q.2.2<=400)(L:V_)(n:Nat)(hn:n<=6)(E:L=m7 (n:Int))(o:SS)(w:W_)(h:M1 B b m ml A w)(hl:LibE B w)(O:m.small 3000)
 (hsc:∀W,D7 B b m w W->Calls prog 26 #[.pointer (some ⟨b,0,none⟩),.string rb] W (λe w'=>∃v:V_,e=.returned (.tuple #[v,L])/\Rd w' 3 v (d.flatMap Q0)/\D7 B b o w w')):
 Calls prog 10 #[.agg #[.pointer (some ⟨b,0,none⟩)],.string s] w (j4 (D6 (T2 (D3 (d.map A08))) 0 n) B b (o) w):=by
 have al:=mkf;have aa:=hid (D7.start h hl);have ao:=h.hBw;unfold j4;obtain⟨hs,e1,e2,e3,e4⟩:=nl.at;clear nl;have hz:=A0K T;have HC:=hid λW=>l7 s _ rb hs T W
 clear T;have Z:Hid (∀W,D7 B b m w W->Calls prog 26 #[.pointer (some ⟨b,0,none⟩),.string rb] W (λe w'=>∃v:V_,e=.returned (.tuple #[v,L])/\Rd w' 3 v (d.flatMap Q0)/\D7 B b o w w')):=hid λW l=>hsc W l
 have HW:Hid (∀W v,D7 B b o w W->Rd W 3 v (d.flatMap Q0)->Calls prog 28 #[v,.func (.func 27) #[] #[]] W (λe w'=>∃t:B_,e=.returned (.string t)/\t.data.toList=T2 (D3 (d.map A08))/\Below W.heap.size W w')):=hid λW v l J=>A9y d p 14 (by omega) A08 (λx N=>⟨by simp[A08];omega,A5a (Nat.le_trans (c x N).1 (by omega)) (c x N).2.1 (c x N).2.2⟩) v W J (hid λk x hk W' X=>by
  obtain⟨i,a,b'⟩:=x;have Q:=c _ (List.mem_of_getElem? hk);exact B9x i a b' (by have:=Q.1;dsimp only at this;omega) (by have:=Q.2.1;dsimp only at this;omega) (by have:=Q.2.2;dsimp only at this;omega) W' (l.lib.tab.below X))
 have F:Hid (∀W (t:B_),D7 B b o w W->Calls prog 23 #[.string t,.int .i64 0,L] W (A4L (D6 t.data.toList 0 n) W)):=hid λW t l=>by rw[E];exact A3z t 0 n hn (by omega) W l.lib.err l.lib.tab
 unfold A4L at F;clear h hl O hsc p c E hn;generalize T2 (D3 (d.map A08))=R at *
 go_enter_defers func10,ntmps10
 go_wp2_with fail;refine(HC.out _).mono ?_;rintro e w1⟨rfl,D⟩;have g:=hid (aa.out.below D);have c1:=g.out.cell;have z1:=g.out.frozen;have s1:=g.out.cellS;clear D;go_wp2_with fail;refine(Z.out _ g.out).mono ?_;rintro e w2⟨v,rfl,J,y⟩;have HR:=hid J;have H:=hid y;clear J y c1 z1 s1;go_wp2_with fail;refine(HW.out _ v H.out HR.out).mono ?_;rintro e w3⟨t0,rfl,r,C⟩;have Y:=hid r;have G:=hid (H.out.below C);clear r C;go_wp2_with fail;refine(F.out _ t0 G.out).mono ?_;rintro e w4⟨t,rfl,ht,z⟩;have HT:=hid ht;have j:=hid (G.out.below z);have c4:=j.out.cell;have z4:=j.out.frozen;clear ht z;go_wp2_with fail;refine leaves_cons (f:=15) (args:=#[.pointer (some ⟨w.heap.size+1,0,none⟩)]) (by simp) (by simp[go_sem]) ?_;refine(A5 _ _).mono ?_;rintro e u' w9⟨rfl,rfl,V⟩;obtain⟨c9,M,A9,P,S⟩:=j.out.fin t w9 V;simp[Leaves,settle,results,results10,go_sem,c9];exact⟨by rw[HT.out,Y.out],⟨M,A9,P⟩,S⟩
