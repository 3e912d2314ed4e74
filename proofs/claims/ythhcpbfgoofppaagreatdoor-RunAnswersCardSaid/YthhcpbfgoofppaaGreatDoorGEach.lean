import Derived.Test.YthhcpbfgoofppaaGreatDoorGTie
import Derived.Test.YthhcpbfgoofppaaGreatDoorWordA
import Derived.Deep.RegionLaw
set_option linter.unusedVariables false
set_option linter.unusedSimpArgs false
open Wf
open Go.Proofs.Tryz hiding parts
namespace Go.Proofs.YthhcpbfgoofppaaGreatDoor
open Go.RowKit Wf
def A7w(w w':W_):Prop:=∀(g:Nat)(a:Array V_),w.heap[g]?=some (Obj.cells a 3 (0,0))->w'.heap[g]?=some (Obj.cells a 3 (0,0))
theorem B1a{w w':W_}{base n:Nat}{v:V_}{a:List V_}(h:w.ownsRow base 3 1 v n a)(b:A7w w w'):w'.ownsRow base 3 1 v n a:=by
 refine⟨h.1,?_⟩;rcases h.2 with h|⟨g,cap,cur,h1,h2,h3,h4⟩
 .exact .inl h
 .exact .inr ⟨g,cap,cur,h1,h2,b g cur h3,h4⟩
theorem B4I(ws:List (List U_))(t:List U_)(n:Nat):(G8 ws t n).length<=ws.length*n:=by
 induction n with
 | zero=>simp[G8]
 | succ n ih =>
   rw[A4P,List.length_append,Nat.mul_succ];have:(A30 ws t (n+1)).length<=ws.length:=by simp[A30];exact A60 ws _
   omega
def Q0(h:Nat×Nat×Nat):List V_:=[.int .i64 (h.1:Int),.int .i64 (h.2.1:Int),.int .i64 (h.2.2:Int)]
theorem hits_len(S:List (Nat×Nat×Nat)):(S.flatMap Q0).length=S.length*3:=by
 induction S with
 | nil=>rfl
 | cons a r ih=>simp only[List.flatMap_cons,List.length_append,ih,List.length_cons];simp[Q0];omega
theorem A8s:(prog.info? 70).map (λi=>(i.zero,i.size,i.bytes))=some (some (.agg #[.int .i64 0,.int .i64 0,.int .i64 0]),3,24):=by kernel_rfl
structure b8 (base:Nat) (W W':W_):Prop where
 os:W'.os=W.os
 tape:W'.tape=W.tape
 output:W'.output=W.output
 size:W.heap.size<=W'.heap.size
 low:∀k,k<base->k<W.heap.size->W'.heap[k]?=W.heap[k]?
 keep:∀(k:Nat)(o:Obj),W.heap[k]?=some o->(∀cs fr,o≠.cells cs 70 fr)->(∀cs fr,o≠.cells cs 64 fr)->W'.heap[k]?=some o
theorem b8.below{base:Nat}{w w':W_}(h:Below w.heap.size w w'):b8 base w w' :=
 ⟨h.os,h.tape,h.output,h.size,λq _ b=>h.block q b,λq o a _ _=>(h.block q (Array.getElem?_eq_some_iff.1 a).1).trans a⟩
theorem b8.ints{base:Nat}{w w':W_}(h:b8 base w w'):A7w w w':=λg c a=>h.keep g _ a (λcs b e=>by injection e with _ e _;exact absurd e (by decide)) (λcs b e=>by injection e with _ e _;exact absurd e (by decide))
theorem b8.blk{base g:Nat}{w w':W_}{t:TypeId}{cs:Array V_}(h:b8 base w w')(a:J0 w g t cs)(c:t≠70)(b:t≠64):J0 w' g t cs :=
 h.keep g _ a (λcs d e=>by injection e with _ e _;exact c e) (λcs d e=>by injection e with _ e _;exact b e)
theorem b8.mp{base g:Nat}{w w':W_}{l:List (Nat×Value)}(h:b8 base w w')(c:Mp w g k5 l):Mp w' g k5 l:=by
 obtain⟨i,a,d,b⟩:=c;exact⟨i,a,h.keep g _ d (λcs f e=>by cases e) (λcs f e=>by cases e),b⟩
theorem b8.row{base:Nat}{w0 w w':W_}{v:V_}{a:List Nat}(h:b8 base w w')(b:N7 w0 w v a):N7 w0 w' v a:=⟨b.1,B1a b.2 h.ints⟩
section
variable {w0 w w':W_} {Nb:Nat} {wv:V_} {root:Kn} {ws:List (List U_)} {Ks:List Kn} {bk ev:Kn->Value} {ch:Kn->List (Nat×Value)}
theorem A2u.hk(h:A2u w0 Nb wv root ws Ks ch bk ev w)(a:b8 w0.heap.size w w'):A2u w0 Nb wv root ws Ks ch bk ev w':=by
 have n:=h.net;refine⟨⟨a.blk n.net (by decide) (by decide),n.onb,n.rt,n.ru,λk b=>a.blk (n.blk k b) (by decide) (by decide),λk b=>a.mp (n.mp k b),n.ob,n.om,n.ib,n.im,n.iu,n.kids,n.all,n.par,?_⟩,h.tie,λs f=>?_⟩
 .exact⟨a.os.trans n.keep.os,a.tape.trans n.keep.tape,a.output.trans n.keep.output,Nat.le_trans n.keep.size a.size,λq c=>(a.low q c (Nat.lt_of_lt_of_le c n.keep.size)).trans (n.keep.block q c)⟩
 .obtain⟨d,i,g⟩:=h.rows s f
  exact⟨d,a.row i,g⟩
theorem A2u.older{a:W_}(h:A2u w0 Nb wv root ws Ks ch bk ev w)(b:a.heap.size<=w0.heap.size)(g:Below a.heap.size a w):A2u a Nb wv root ws Ks ch bk ev w:=by
 have n:=h.net;refine⟨⟨n.net,Nat.le_trans b n.onb,n.rt,n.ru,n.blk,n.mp,λk d=>Nat.le_trans b (n.ob k d),λk d=>Nat.le_trans b (n.om k d),n.ib,n.im,n.iu,n.kids,n.all,n.par,g⟩,h.tie,λs c=>?_⟩;obtain⟨f,j,i⟩:=h.rows s c;exact⟨f,j.base b,i⟩
end
theorem A2u.below{w0 w w':W_}{Nb:Nat}{wv:V_}{root:Kn}{ws:List (List U_)}{Ks:List Kn}{bk ev:Kn->Value}{ch:Kn->List (Nat×Value)}(h:A2u w0 Nb wv root ws Ks ch bk ev w)(a:Below w.heap.size w w'):A2u w0 Nb wv root ws Ks ch bk ev w':=h.hk (b8.below a)
def A5x(w0:W_)(Nb:Nat)(a:V_)(ws:List (List U_))(w:W_):Prop:=∃(root:Kn)(Ks:List Kn) (ch:Kn->List (Nat×Value)) (bk ev:Kn->Value),A2u w0 Nb a root ws Ks ch bk ev w
def Z3(l:List (Nat×Nat)):List V_:=l.flatMap λp=>[.int .i64 (p.1:Int),.int .i64 (p.2:Int)]
theorem S8(l:List (Nat×Nat)):(Z3 l).length=l.length*2:=by
 induction l with
 | nil=>rfl
 | cons x l ih=>simp only[Z3,List.flatMap_cons,List.length_append,List.length_cons] at ih ⊢;rw[ih];simp;omega
theorem A2v(l:List (Nat×Nat))(x y:Nat):Z3 (l++[(x,y)])=Z3 l++[.int .i64 x,.int .i64 y]:=by simp[Z3]
theorem A6x:(prog.info? 68).map (λi=>(i.zero,i.size,i.bytes))=some (some (.agg #[.int .i64 0,.int .i64 0]),2,16):=by kernel_rfl
theorem A7S(W:W_)(t:TypeId)(x y:V_)(g:Nat)(b:g=W.heap.size):∀(j:Nat)(u:V_),[x,y][j]?=some u->(W.alloc (.cells #[x,y] t)).cell? ((⟨g,0,none⟩:Addr).add j)=some u:=by
 intro j u a;subst b;rw[Z5,Nat.zero_add,(J0.new W t #[x,y]).cell]
 simpa using a
theorem A7J(l:List (Nat×Nat)):∀(k j:Nat)(x y:Nat),l[k]?=some (x,y)->j<2->(Z3 l)[k*2+j]?=[Value.int .i64 x,Value.int .i64 y][j]?:=by
 induction l with
 | nil=>intro k j x y h;simp at h
 | cons m r ih =>
   intro k j x y h a;rcases k with _|k
   .simp at h
    subst h;simp only[Z3,List.flatMap_cons,Nat.zero_mul,Nat.zero_add];rw[List.getElem?_append_left (by simpa using a)]
   .simp only[Z3,List.flatMap_cons]
    rw[List.getElem?_append_right (by simp;omega)];have e:(k+1)*2+j - [Value.int .i64 (m.1:Int),Value.int .i64 (m.2:Int)].length=k*2+j:=by simp;omega
    rw[e];exact ih k j x y (by simpa using h) a
theorem Y9{w:W_}{v:V_}{l:List (Nat×Nat)}(h:Rd w 2 v (Z3 l)):∃(A:Option Addr)(cap:Nat),v=.slice A l.length cap/\l.length<=cap/\cap<=9223372036854775807 /\
 (0<l.length->∃b a,A=some ⟨b,a,none⟩/\b<w.heap.size/\∀(w':W_),(∀o,w'.cell? ⟨b,o,none⟩=w.cell? ⟨b,o,none⟩)->∀(k x y:Nat),l[k]?=some (x,y)->w'.cell? ⟨b,a+k*2,none⟩=some (.int .i64 x)/\w'.cell? ⟨b,a+k*2+1,none⟩=some (.int .i64 y)):=by
 obtain⟨A,n,cap,rfl,z,t,s,r⟩:=h;rw[S8] at s;obtain rfl:n=l.length:=by omega
 refine⟨A,cap,rfl,z,t,λf=>?_⟩;obtain⟨b,a,rfl,q⟩:=r f
 have c:∀(k x y:Nat),l[k]?=some (x,y)->∀j u,j<2->[Value.int .i64 x,Value.int .i64 y][j]?=some u->w.cell? ⟨b,a+(k*2+j),none⟩=some u:=by
  intro k x y d j u p i;exact q _ _ (by rw[A7J l k j x y d p];exact i)
 have hlt:b<w.heap.size:=by
  have m:l[0]?=some (l[0]'f):=List.getElem?_eq_getElem f;exact World.block_lt_of_cell? w _ (c 0 _ _ m 0 _ (by omega) rfl)
 refine⟨b,a,rfl,hlt,λw' g k x y d=>?_⟩;simp only[g];exact⟨c k x y d 0 _ (by omega) rfl,c k x y d 1 _ (by omega) rfl⟩
def sp2(x y b a:Int):Bool:=x==b&&y==a
theorem A6z(d:Nat)(x y b a:Int)(w:W_):
 (Op.equalIn (d+2) 68 (.agg #[.int .i64 x,.int .i64 y]) (.agg #[.int .i64 b,.int .i64 a])).run prog w=.ok (sp2 x y b a) w:=by
 have h:=isAgg3;have u4:=underlying3;have g:=sizeOf3;have f:prog.underlying 68=some (.struct (prog.fieldsOf 68)):=by kernel_rfl
 have c:prog.stoodInHeld 68=false:=by kernel_rfl
 rw[show d+2=(d+1)+1 from rfl,run_equalIn_agg w (d+1) 68 _ _ f c];simp only[Program.fieldsOf,underlying68]
 go_simp
 unfold sp2;by_cases h1:x=b <;> by_cases h2:y=a <;> simp[h1,h2]
@[go_sem high] theorem B9i (x y b a:Int)(w:W_):
 (Op.equalIn 10000 68 (.agg #[.int .i64 x,.int .i64 y]) (.agg #[.int .i64 b,.int .i64 a])).run prog w=.ok (sp2 x y b a) w:=A6z 9998 x y b a w
theorem B5F(l:List (Nat×Nat×Nat)):∀(k j:Nat)(h:Nat×Nat×Nat),l[k]?=some h->j<3->(l.flatMap Q0)[k*3+j]?=(Q0 h)[j]?:=by
 induction l with
 | nil=>intro k j x h;simp at h
 | cons m r ih =>
   intro k j x h a;rcases k with _|k
   .simp at h
    subst h;simp only[List.flatMap_cons,Nat.zero_mul,Nat.zero_add];rw[List.getElem?_append_left (by simpa[Q0] using a)]
   .simp only[List.flatMap_cons]
    rw[List.getElem?_append_right (by simp[Q0];omega)];have e:(k+1)*3+j - (Q0 m).length=k*3+j:=by simp[Q0];omega
    rw[e];exact ih k j x (by simpa using h) a
theorem A8t{w:W_}{v:V_}{l:List (Nat×Nat×Nat)}(h:Rd w 3 v (l.flatMap Q0)):∃(A:Option Addr)(cap:Nat),v=.slice A l.length cap/\l.length<=cap/\cap<=9223372036854775807 /\
 (0<l.length->∃b a,A=some ⟨b,a,none⟩/\b<w.heap.size/\∀(w':W_),(∀o,w'.cell? ⟨b,o,none⟩=w.cell? ⟨b,o,none⟩)->∀(k x y z:Nat),l[k]?=some (x,y,z)->w'.cell? ⟨b,a+k*3,none⟩=some (.int .i64 x)/\w'.cell? ⟨b,a+k*3+1,none⟩=some (.int .i64 y)/\w'.cell? ⟨b,a+k*3+2,none⟩=some (.int .i64 z)):=by
 obtain⟨A,n,cap,rfl,B,t,s,r⟩:=h;rw[hits_len] at s;obtain rfl:n=l.length:=by omega
 refine⟨A,cap,rfl,B,t,λf=>?_⟩;obtain⟨b,a,rfl,q⟩:=r f
 have c:∀(k x y z:Nat),l[k]?=some (x,y,z)->∀j u,j<3->(Q0 (x,y,z))[j]?=some u->w.cell? ⟨b,a+(k*3+j),none⟩=some u:=by
  intro k x y z d j u p i;exact q _ _ (by rw[B5F l k j _ d p];exact i)
 have hlt:b<w.heap.size:=by
  have m:l[0]?=some (l[0]'f):=List.getElem?_eq_getElem f;exact World.block_lt_of_cell? w _ (c 0 _ _ _ m 0 _ (by omega) rfl)
 refine⟨b,a,rfl,hlt,λw' g k x y z d=>?_⟩;simp only[g];exact⟨c k x y z d 0 _ (by omega) rfl,c k x y z d 1 _ (by omega) rfl,c k x y z d 2 _ (by omega) rfl⟩
def B87(x y z c b a:Int):Bool:=x==c&&(y==b&&z==a)
theorem B5T(d:Nat)(x y z c b a:Int)(w:W_):
 (Op.equalIn (d+3) 70 (.agg #[.int .i64 x,.int .i64 y,.int .i64 z]) (.agg #[.int .i64 c,.int .i64 b,.int .i64 a])).run prog w=.ok (B87 x y z c b a) w:=by
 have l:=isAgg3;have u4:=underlying3;have j:=sizeOf3;have k:=isAgg68;have i:=sizeOf68;have h:prog.underlying 70=some (.struct (prog.fieldsOf 70)):=by kernel_rfl
 have g:prog.stoodInHeld 70=false:=by kernel_rfl
 have f:=A6z d y z b a w;rw[show d+3=(d+2)+1 from rfl,run_equalIn_agg w (d+2) 70 _ _ h g];simp only[Program.fieldsOf,underlying70]
 go_simp
 unfold B87;by_cases h1:x=c <;> by_cases h2:y=b <;> by_cases h3:z=a <;> simp[h1,h2,h3,sp2]
@[go_sem high] theorem B91 (x y z c b a:Int)(w:W_):
 (Op.equalIn 10000 70 (.agg #[.int .i64 x,.int .i64 y,.int .i64 z]) (.agg #[.int .i64 c,.int .i64 b,.int .i64 a])).run prog w=.ok (B87 x y z c b a) w:=B5T 9997 x y z c b a w
