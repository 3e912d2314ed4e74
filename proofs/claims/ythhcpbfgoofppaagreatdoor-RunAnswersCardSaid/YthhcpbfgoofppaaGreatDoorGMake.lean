import Derived.Test.YthhcpbfgoofppaaGreatDoorGSim
import Derived.Deep.RegionLaw
set_option linter.unusedVariables false
set_option linter.unusedSimpArgs false
open Wf
set_option maxRecDepth 100000
set_option maxHeartbeats 8000000
open Go.Lib (hid)
open Go.Proofs.Tryz hiding parts
namespace Go.Proofs.YthhcpbfgoofppaaGreatDoor
open Go.RowKit Wf
theorem B3A:(prog.info? 262).map (λi=>(i.zero,i.size,i.bytes))=some (some (.agg #[.int .i64 0,.int .u64 0,.int .u64 0,.int .u64 0,.int .u64 0,.int .i64 0,.int .i64 0]),7,56):=by kernel_rfl
structure Fm (M:Nat) (w w':W_):Prop where
 size:w.heap.size<=w'.heap.size
 kept:∀k cs t fr,w.heap[k]?=some (.cells cs t fr)->t≠262->k≠M->w'.heap[k]?=w.heap[k]?
theorem Fm.refl(M:Nat)(w:W_):Fm M w w:=⟨lr_ _,λ_ _ _ _ _ _ _=>rfl⟩
theorem Fm.trans{M:Nat}{a b c:W_}(h:Fm M a b)(k:Fm M b c):Fm M a c :=
 ⟨Nat.le_trans h.size k.size,λi cs t j f d g=>by
   have:=h.kept i cs t j f d g;rw[k.kept i cs t j (this.trans f) d g,this]⟩
theorem Fm.below{M:Nat}{w w':W_}(h:Below w.heap.size w w'):Fm M w w':=⟨h.size,λk cs t c a _ _=>h.block k (Array.getElem?_eq_some_iff.1 a).1⟩
theorem Fm.setM(M:Nat)(w:W_)(j:Nat)(v:V_):Fm M w (w.setCell ⟨M,j,none⟩ v) :=
 ⟨by simp,λk cs t c _ _ a=>Below.heap_setCell _ _ _ k (λe=>a (by rw[e]))⟩
theorem Fm.grown{M base n:Nat}{w w':W_}{v:V_}{d:List V_}(h:w.ownsRow base 262 7 v n d)(c:w.grownBy w' v.ownBlock):Fm M w w' :=
 ⟨c.size,λk cs t j a f _=>c.block k (Array.getElem?_eq_some_iff.1 a).1 (λe=>by
   rcases h.2 with ⟨rfl,_⟩|⟨g,cap,cur,rfl,_,hh,_⟩
   .simp[Value.ownBlock] at e
   .obtain rfl:k=g:=by simpa[Value.ownBlock] using e
    rw[a] at hh;cases hh;exact f rfl)⟩
theorem J0.fm{M:Nat}{w w':W_}{k:Nat}{t:TypeId}{cs:Array V_}(h:J0 w k t cs)(c:Fm M w w')(a:t≠262)(d:k≠M):J0 w' k t cs:=(c.kept k cs t _ h a d).trans h
structure P7 (w0:W_) (b off ln cap M:Nat) (i:Nat) (S:List St) (v:V_) (w:W_):Prop where
 mb:J0 w M 259 #[.slice (some ⟨b,off,none⟩) ln cap,.int .i64 i,v]
 own:w.ownsRow (M+1) 262 7 v S.length (S.flatMap J1)
 bel:Below w0.heap.size w0 w
 base:w0.heap.size<=M
section
variable {w0:W_} {b off ln cap M i:Nat} {S:List St} {v:V_} {w w':W_}
theorem P7.below(h:P7 w0 b off ln cap M i S v w)(a:Below w.heap.size w w'):P7 w0 b off ln cap M i S v w' :=
 ⟨h.mb.kept a,h.own.kept (row:=none) ⟨a.os,a.tape,a.output,a.size,λq c _=>a.block q c⟩ (by cases v.ownBlock <;> simp),h.bel.trans (a.mono h.bel.size),h.base⟩
theorem P7.alloc(h:P7 w0 b off ln cap M i S v w)(o:Obj):P7 w0 b off ln cap M i S v (w.alloc o):=h.below ba_
theorem P7.cast{a:Nat}{S':List St}(h:P7 w0 b off ln cap M i S v w)(c:i=a)(d:S=S'):P7 w0 b off ln cap M a S' v w:=by subst c;subst d;exact h
theorem P7.drew(h:P7 w0 b off ln cap M i S v w):P7 w0 b off ln cap M i S v w.drew:=h.below br_.drew
theorem P7.at_(h:P7 w0 b off ln cap M i S v w)(a:Nat)(x:Int)(c:x=(a:Int)):P7 w0 b off ln cap M a S v (w.setCell ⟨M,1,none⟩ (.int .i64 x)):=by
 subst c;refine⟨?_,?_,h.bel.setCell h.base _,h.base⟩
 .have:=h.mb.set_ 1 (.int .i64 a)
  simpa using this
 .exact ownsRow_setCell_below h.own (Nat.lt_succ_self _) _
theorem P7.take(h:P7 w0 b off ln cap M i S v w){s:St}{g:V_}(c:w'.ownsRow (M+1) 262 7 g (S.length+1) (S.flatMap J1++J1 s))(f:w.grownBy w' v.ownBlock):
 w'.cell? ⟨M,2,none⟩=some v/\w'.frozen? ⟨M,2,none⟩=false/\P7 w0 b off ln cap M i (S++[s]) g (w'.setCell ⟨M,2,none⟩ g):=by
 have hlt:=λq l=>h.own.lt q l
 have d:J0 w' M 259 #[.slice (some ⟨b,off,none⟩) ln cap,.int .i64 i,v]:=(f.block M h.mb.lt (λe=>by have:=(hlt M e.symm).1;omega)).trans h.mb;refine⟨d.cell 2,d.frozen 2,?_,?_,?_,h.base⟩
 .have:=d.set_ 2 g
  simpa using this
 .have:=ownsRow_setCell_below c (a:=⟨M,2,none⟩) (Nat.lt_succ_self _) g
  simpa using this
 .have m:Below w0.heap.size w0 w':=⟨f.os.trans h.bel.os,f.tape.trans h.bel.tape,f.output.trans h.bel.output,Nat.le_trans h.bel.size f.size,λk j =>
   (f.block k (Nat.lt_of_lt_of_le j h.bel.size) (λe=>by have:=(hlt k e.symm).1;have:=h.base;omega)).trans (h.bel.block k j)⟩
  exact m.setCell h.base _
end
theorem A4k(S C:List St)(x y:St):(S++[x]++C).set S.length y=S++[y]++C:=by
 rw[List.append_assoc,List.set_append_right _ _ (lr_ _)];simp
theorem B3K:∀(S:List St)(k:Nat) (op:Int) (c:X4) (x y d:Int),S[k]?=some ⟨op,c,x,y⟩->(S.flatMap J1).set (k*7+5) (.int .i64 d)=(S.set k ⟨op,c,d,y⟩).flatMap J1:=by
 intro S
 induction S with
 | nil=>intro k op c x y d h;simp at h
 | cons a r ih =>
   intro k op c x y d h;rcases k with _|k
   .simp at h
    subst h;simp[J1]
   .simp only[List.flatMap_cons,List.set_cons_succ]
    rw[←ih k op c x y d (by simpa using h)];rw[List.set_append_right _ _ (by simp[J1];omega)]
    congr 1
    have e:(k+1)*7+5 - (J1 a).length=k*7+5:=by simp[J1];omega
    rw[e]
theorem B3J:∀(S:List St)(k:Nat) (op:Int) (c:X4) (x y d:Int),S[k]?=some ⟨op,c,x,y⟩->(S.flatMap J1).set (k*7+6) (.int .i64 d)=(S.set k ⟨op,c,x,d⟩).flatMap J1:=by
 intro S
 induction S with
 | nil=>intro k op c x y d h;simp at h
 | cons a r ih =>
   intro k op c x y d h;rcases k with _|k
   .simp at h
    subst h;simp[J1]
   .simp only[List.flatMap_cons,List.set_cons_succ]
    rw[←ih k op c x y d (by simpa using h)];rw[List.set_append_right _ _ (by simp[J1];omega)]
    congr 1
    have e:(k+1)*7+6 - (J1 a).length=k*7+6:=by simp[J1];omega
    rw[e]
theorem B63{w:W_}{base a n g cap:Nat}{e:TypeId}{c:List V_}(h:w.ownsRow base e a (.slice (some ⟨g,0,none⟩) n cap) n c)(j:Nat)(u:V_):
 (w.setCell ⟨g,j,none⟩ u).ownsRow base e a (.slice (some ⟨g,0,none⟩) n cap) n (c.set j u):=by
 refine⟨by rw[List.length_set];exact h.1,?_⟩;rcases h.2 with ⟨h0,_⟩|⟨g',cap',cur,hv,h1,h2,h3,h4,h5,h6⟩
 .cases h0
 .injection hv with e1 e2 e3
  injection e1 with e1
  injection e1 with e1
  subst e1;subst e3;refine .inr ⟨g,cap,cur.setIfInBounds j u,rfl,h1,(show J0 w g e cur from h2).set_ j u,h3,h4,by rw[Array.size_setIfInBounds];exact h5,?_⟩;rw[Array.toList_setIfInBounds,←h6,List.take_set]
section
variable {w0:W_} {b off ln cap M i:Nat} {S:List St} {v:V_} {w w':W_}
theorem P7.form(h:P7 w0 b off ln cap M i S v w)(a:0<S.length):∃g c,v=.slice (some ⟨g,0,none⟩) S.length c:=by
 rcases h.own.2 with ⟨_,h0⟩|⟨g,c,cur,hv,_⟩
 .omega
 .exact⟨g,c,hv⟩
theorem P7.step{g c:Nat}(h:P7 w0 b off ln cap M i S (.slice (some ⟨g,0,none⟩) S.length c) w):M<g/\g<w.heap.size/\S.length<=c/\c<=9223372036854775807/\(∀j,w.frozen? ⟨g,j,none⟩=false) /\
 ∀k s,S[k]?=some s->w.cell? ⟨g,k*7+5,none⟩=some (.int .i64 s.x)/\w.cell? ⟨g,k*7+6,none⟩=some (.int .i64 s.y):=by
 rcases h.own.2 with ⟨h0,_⟩|⟨g',c',cur,hv,h1,h2,h3,h4,h5,h6⟩
 .cases h0
 .injection hv with e1 e2 e3
  injection e1 with e1
  injection e1 with e1
  subst e1;subst e3;have a:J0 w g 262 cur:=h2;refine⟨h1,a.lt,h3,by unfold maxLen at h4;omega,λj=>a.frozen j,λk s d=>?_⟩;have f:=(List.getElem?_eq_some_iff.1 d).1
  have key:∀j,j<7->cur[k*7+j]?=(J1 s)[j]?:=λj l=>by
   rw[←A47 S k j s d l,←h6,List.getElem?_take,if_pos (by omega),Array.getElem?_toList]
  rw[a.cell,a.cell,key 5 (by omega),key 6 (by omega)];exact⟨rfl,rfl⟩
theorem P7.setCell_{g c:Nat}{S':List St}(h:P7 w0 b off ln cap M i S (.slice (some ⟨g,0,none⟩) S.length c) w)(j:Nat)(u:V_)(a:S'.length=S.length)(d:(S.flatMap J1).set j u=S'.flatMap J1):
 P7 w0 b off ln cap M i S' (.slice (some ⟨g,0,none⟩) S.length c) (w.setCell ⟨g,j,none⟩ u):=by
 have f:=h.step.1;refine⟨h.mb.far (by simp;omega) u,?_,h.bel.setCell (by show w0.heap.size<=g;have:=h.base;omega) u,h.base⟩;rw[←d,a];exact B63 h.own j u
theorem P7.setY{g c k:Nat}{op x y:Int}{cl:X4}(h:P7 w0 b off ln cap M i S (.slice (some ⟨g,0,none⟩) S.length c) w)(d:S[k]?=some ⟨op,cl,x,y⟩)(a:Int):
 P7 w0 b off ln cap M i (S.set k ⟨op,cl,x,a⟩) (.slice (some ⟨g,0,none⟩) S.length c) (w.setCell ⟨g,k*7+6,none⟩ (.int .i64 a)) :=
 h.setCell_ _ _ (by simp) (B3J S k op cl x y a d)
theorem P7.setXY{g c k:Nat}{op x y:Int}{cl:X4}(h:P7 w0 b off ln cap M i S (.slice (some ⟨g,0,none⟩) S.length c) w)(j:S[k]?=some ⟨op,cl,x,y⟩)(a d:Int):
 P7 w0 b off ln cap M i (S.set k ⟨op,cl,a,d⟩) (.slice (some ⟨g,0,none⟩) S.length c) ((w.setCell ⟨g,k*7+5,none⟩ (.int .i64 a)).setCell ⟨g,k*7+6,none⟩ (.int .i64 d)):=by
 have m:=h.setCell_ (S':=S.set k ⟨op,cl,a,y⟩) _ _ (by simp) (B3K S k op cl x y a j);rw[show S.length=(S.set k ⟨op,cl,a,y⟩).length by simp] at m ⊢;have f:=(List.getElem?_eq_some_iff.1 j).1;have l:=m.setY (k:=k) (op:=op) (cl:=cl) (x:=a) (y:=y) (by simp[f]) d;rw[List.set_set] at l;exact l
theorem Fm.row{M g:Nat}{w:W_}(h:∃a,J0 w g 262 a)(j:Nat)(u:V_):Fm M w (w.setCell ⟨g,j,none⟩ u) :=
 ⟨by simp,λk cs t m c d _=>Below.heap_setCell _ _ _ k (λe=>by
   obtain⟨a,f⟩:=h;have l:k=g:=e;subst l;rw[show w.heap[k]?=_ from f] at c;cases c;exact d rfl)⟩
theorem P7.row{g c:Nat}(h:P7 w0 b off ln cap M i S (.slice (some ⟨g,0,none⟩) S.length c) w):∃a,J0 w g 262 a:=by
 rcases h.own.2 with ⟨h0,_⟩|⟨g',c',a,hv,h1,h2,h3,h4,h5,h6⟩
 .cases h0
 .injection hv with e1 e2 e3
  injection e1 with e1
  injection e1 with e1
  subst e1;exact⟨a,h2⟩
end
def B9d(w0:W_)(b off ln cap M i:Nat)(S:List St)(s:St)(w:W_)(e:Ending)(w':W_):Prop :=
 e=.returned (.int .i64 S.length)/\∃a,P7 w0 b off ln cap M i (S++[s]) a w'/\Fm M w w'
theorem X6(w0:W_)(b off ln cap M i:Nat)(S:List St)(v:V_)(w:W_)(h:P7 w0 b off ln cap M i S v w):
 Calls prog 184 #[.pointer (some ⟨M,0,none⟩)] w (λe w'=>e=.returned (.int .i64 S.length)/\w=w'):=by
 have f:=h.mb.cell 2;obtain⟨g,d,c,rfl,_,_,a,_⟩:=Rd.of_own h.own;obtain rfl:d=S.length:=by rw[A46] at a;omega
 simp only[List.getElem?_toArray,List.getElem?_cons_succ,List.getElem?_cons_zero] at f;clear h a;go_enter func184,ntmps184;go_wp2;go_ret;exact⟨rfl,rfl⟩
theorem B2T(W:W_)(g:Nat)(k:W.heap.size=g)(op x y:Int)(f d c a:Nat):∀(j:Nat)(u:V_),(J1 ⟨op,(f,d,c,a),x,y⟩)[j]?=some u ->
 (W.alloc (.cells #[.int .i64 op,.int .u64 f,.int .u64 d,.int .u64 c,.int .u64 a,.int .i64 x,.int .i64 y] 262)).cell? ((⟨g,0,none⟩:Addr).add j)=some u:=by
 intro j u h;subst k;rw[Z5,Nat.zero_add,(J0.new W _ _).cell]
 simpa[J1] using h
theorem A8I(s:St):∀u∈J1 s,u.oneCell'=true:=by
 intro u a;simp only[J1,List.mem_cons,List.not_mem_nil,or_false] at a;rcases a with rfl|rfl|rfl|rfl|rfl|rfl|rfl <;> rfl
theorem Y8(w0:W_)(b off ln cap M i:Nat)(S:List St)(v:V_)(op x y:Int)(j f d c:Nat)(w:W_)(G:S.length<=1000)(h:P7 w0 b off ln cap M i S v w):
 Calls prog 160 #[.pointer (some ⟨M,0,none⟩),.agg #[.int .i64 op,.int .u64 j,.int .u64 f,.int .u64 d,.int .u64 c,.int .i64 x,.int .i64 y]] w (B9d w0 b off ln cap M i S ⟨op,(j,f,d,c),x,y⟩ w):=by
 obtain⟨C,r,q,p,n⟩:=info_parts B3A;have H:=hid (h.alloc (.cells #[.int .i64 op,.int .u64 j,.int .u64 f,.int .u64 d,.int .u64 c,.int .i64 x,.int .i64 y] 262));have F:=hid (J0.new w 262 #[.int .i64 op,.int .u64 j,.int .u64 f,.int .u64 d,.int .u64 c,.int .i64 x,.int .i64 y]);have J:=h.mb.lt;clear h;go_enter func160,ntmps160;go_wp2_with fail;have E:(w.alloc (.cells #[.int .i64 op,.int .u64 j,.int .u64 f,.int .u64 d,.int .u64 c,.int .i64 x,.int .i64 y] 262)).cell? ⟨M,2,none⟩=some v:=H.out.mb.cell 2;have t:=λo=>(H.out.drew.alloc o).mb.cell 2
 simp only[List.getElem?_toArray,List.getElem?_cons_succ,List.getElem?_cons_zero] at t
 go_region_law (refine step_append_lies _ rfl (.tmp 9) (.tmp 11) 228 rfl (M+1) 262 C _ 7 56 underlying228 r q p n rfl (by decide) v S.length (S.flatMap J1) ?a1 (H.out.drew.alloc _).own ⟨w.heap.size+1,0,none⟩ 1 1 (J1 ⟨op,(j,f,d,c),x,y⟩) ?a2 rfl (B2T _ _ ?a3 _ _ _ _ _ _ _) (A8I _) ?a4 ?a5 ?a6 ?a7 _ rfl ?_;(case a1=>simp[Act.eval,Act.put]);(case a2=>simp[Act.eval,Act.put]);(case a3=>simp);(case a4=>omega);(case a5=>unfold maxLen;omega);(case a6=>omega);(case a7=>simp;omega);intro g D A k s hat hlt;obtain⟨N,L,a⟩:=(H.out.alloc (.cells #[.int .i64 op,.int .u64 j,.int .u64 f,.int .u64 d,.int .u64 c,.int .i64 x,.int .i64 y] 262)).drew.take k s;have l:=((Fm.below (M:=M) ((((Below.refl _ w).alloc (lr_ _) _).alloc (by simp) _).drew)).trans (Fm.grown (H.out.alloc (.cells #[.int .i64 op,.int .u64 j,.int .u64 f,.int .u64 d,.int .u64 c,.int .i64 x,.int .i64 y] 262)).drew.own s)).trans (Fm.setM M A 2 (.slice (some ⟨g,0,none⟩) (S.length+1) D));have B:=a.mb.cell 2;simp only[List.getElem?_toArray,List.getElem?_cons_succ,List.getElem?_cons_zero] at B;have m:=hid a;have z:=hid l;clear a l k s hat hlt)
 all_goals (
  go_wp2;go_ret;exact⟨by simp,_,m.out,z.out⟩)
def B9Y(w0:W_)(b off ln cap M i:Nat)(S:List St)(u:Rx)(w:W_)(e:Ending)(w':W_):Prop :=
 e=.returned (.tuple #[])/\∃a,P7 w0 b off ln cap M (i+(A0 u).length) (S++F7 u S.length) a w'/\Fm M w w'
theorem B54{S h f c g d:List St}{a b:Rx}(q:h=S++[(⟨2,(0,0,0,0),(S.length:Int)+1,0⟩:St)])(p:f=h++F7 a h.length)(o:c=f++[(⟨2,(0,0,0,0),0,0⟩:St)])
 (h5:g=c.set S.length ⟨2,(0,0,0,0),(S.length:Int)+1,(c.length:Int)⟩) (h6:d=g++F7 b g.length) (l3:f.length=S.length+1+sz a) (l4:c.length=f.length+1) (l6:d.length=S.length+2+sz a+sz b):
 d.set f.length ⟨2,(0,0,0,0),(d.length:Int),(d.length:Int)⟩=S++F7 (.alt a b) S.length:=by
 have s:c=S++[(⟨2,(0,0,0,0),(S.length:Int)+1,0⟩:St)]++(F7 a (S.length+1)++[(⟨2,(0,0,0,0),0,0⟩:St)]):=by
  rw[o,p,q];simp
 have l:g.length=c.length:=by rw[h5];simp
 have r:g=(S++[(⟨2,(0,0,0,0),(S.length:Int)+1,(c.length:Int)⟩:St)]++F7 a (S.length+1))++[(⟨2,(0,0,0,0),0,0⟩:St)]:=by
  rw[h5];generalize (c.length:Int)=k;rw[s,A4k];simp
 have j:f.length=(S++[(⟨2,(0,0,0,0),(S.length:Int)+1,(c.length:Int)⟩:St)]++F7 a (S.length+1)).length:=by simp[Z1];omega
 have n:d=(S++[(⟨2,(0,0,0,0),(S.length:Int)+1,(c.length:Int)⟩:St)]++F7 a (S.length+1))++[(⟨2,(0,0,0,0),0,0⟩:St)]++F7 b (S.length+1+sz a+1):=by
  rw[←r,h6,l,show c.length=S.length+1+sz a+1 by omega]
 have m:(d.length:Int)=((S.length+1+sz a+1+sz b:Nat):Int):=by omega
 rw[m,j];rw[n,A4k,show(c.length:Int)=((S.length+1+sz a+1:Nat):Int) by omega];simp[F7,zc]
theorem B4r(w0:W_)(l:List Nd)(b off cap M:Nat)(bw:l.length<=60)(bx:l.length<=cap)(bq:cap<=9223372036854775807)
 (hcell:∀(w':W_),Below w0.heap.size w0 w'->∀k n,l[k]?=some n ->
   w'.cell? ⟨b,off+k*5,none⟩=some (.int .i64 n.op)/\w'.cell? ⟨b,off+k*5+1,none⟩=some (.int .u64 (n.cls.1:Int))/\w'.cell? ⟨b,off+k*5+2,none⟩=some (.int .u64 (n.cls.2.1:Int)) /\
   w'.cell? ⟨b,off+k*5+3,none⟩=some (.int .u64 (n.cls.2.2.1:Int))/\w'.cell? ⟨b,off+k*5+4,none⟩=some (.int .u64 (n.cls.2.2.2:Int))):
 ∀(u:Rx)(i:Nat) (S:List St) (v:V_) (w:W_),At l i u->S.length+sz u<=1000->P7 w0 b off l.length cap M i S v w ->
  Calls prog 159 #[.pointer (some ⟨M,0,none⟩)] w (B9Y w0 b off l.length cap M i S u w):=by
 have p:=hid hcell;clear hcell;intro u
 induction u with
 | byte c =>
   intro i S v w hat hS h;obtain⟨k0,k1,k2,k3⟩:=c;have hlt:=hat.lt;have E:=G0 (.byte (k0,k1,k2,k3));have af:(i:Int)<l.length:=by omega
   have ag:(0:Int)<=i:=by omega
   have c0:=λo=>(h.alloc o).mb.cell 0
   have c1:=λo=>(h.alloc o).mb.cell 1
   have d0:=h.mb.cell 0;have d1:=h.mb.cell 1;simp only[List.getElem?_toArray,List.getElem?_cons_succ,List.getElem?_cons_zero] at c0 c1 d0 d1;have q:=λo=>p.out _ (h.alloc o).bel i _ hat.byte
   have J:Hid (J0 (((w.setCell ⟨M,1,none⟩ (.int .i64 ((i:Int)+1))).alloc (.cells #[.int .i64 1,.int .u64 k0,.int .u64 k1,.int .u64 k2,.int .u64 k3] 114)).drew) w.heap.size 114 #[.int .i64 1,.int .u64 k0,.int .u64 k1,.int .u64 k2,.int .u64 k3]):=hid (Q8 _ _ (by simp) _ _);have H:=hid (((h.at_ (i+1) ((i:Int)+1) (by simp)).alloc (.cells #[.int .i64 1,.int .u64 k0,.int .u64 k1,.int .u64 k2,.int .u64 k3] 114)).drew);have HF:=hid ((Fm.setM M w 1 (.int .i64 ((i:Int)+1))).trans (Fm.below (M:=M) ((br_.alloc (lr_ _) (.cells #[.int .i64 1,.int .u64 k0,.int .u64 k1,.int .u64 k2,.int .u64 k3] 114)).drew)));obtain⟨q0,q1,q2,q3,Z⟩:=p.out _ h.bel i _ hat.byte;have Y:=λo=>(q o).1
   have V:=λo=>(q o).2.1
   have T:=λo=>(q o).2.2.1
   have R:=λo=>(q o).2.2.2.1
   have Q:=λo=>(q o).2.2.2.2
   dsimp only[zc] at q0 q1 q2 q3 Z Y V T R Q;have z1:=λo=>(h.alloc o).mb.frozen 1
   have ah:=h.mb.lt;clear h q hat;go_enter func159,ntmps159;go_wp2_with fail;go_region;go_wp2_with fail;refine(X6 _ _ _ _ _ _ _ _ _ _ H.out).mono ?_;rintro e w1⟨rfl,rfl⟩;have n0:=J.out.cell 0;simp only[List.getElem?_toArray,List.getElem?_cons_succ,List.getElem?_cons_zero] at n0;have n1:=J.out.cell 1;have n2:=J.out.cell 2;have n3:=J.out.cell 3;have n4:=J.out.cell 4;simp only[List.getElem?_toArray,List.getElem?_cons_succ,List.getElem?_cons_zero] at n1 n2 n3 n4;go_wp2_with fail;refine(Y8 _ _ _ _ _ _ _ S _ 1 ((S.length:Int)+1) 0 k0 k1 k2 k3 _ (by simp[sz] at hS;omega) H.out).mono ?_;rintro e w2⟨rfl,v2,d,f⟩;have z:=hid d;have aB:=hid (HF.out.trans f);clear d f;go_wp2_with fail
   go_end0
   exact⟨rfl,_,z.out.cast (by simp[A0] <;> omega) (by simp[F7]),aB.out⟩
 | empty =>
   intro i S v w hat hS h;have hlt:=hat.lt;have E:=G0 .empty;have af:(i:Int)<l.length:=by omega
   have ag:(0:Int)<=i:=by omega
   have c0:=λo=>(h.alloc o).mb.cell 0
   have c1:=λo=>(h.alloc o).mb.cell 1
   have d0:=h.mb.cell 0;have d1:=h.mb.cell 1;simp only[List.getElem?_toArray,List.getElem?_cons_succ,List.getElem?_cons_zero] at c0 c1 d0 d1;have q:=λo=>p.out _ (h.alloc o).bel i _ hat.empty
   have J:Hid (J0 (((w.setCell ⟨M,1,none⟩ (.int .i64 ((i:Int)+1))).alloc (.cells #[.int .i64 2,.int .u64 ((0:Nat):Int),.int .u64 ((0:Nat):Int),.int .u64 ((0:Nat):Int),.int .u64 ((0:Nat):Int)] 114)).drew) w.heap.size 114 #[.int .i64 2,.int .u64 ((0:Nat):Int),.int .u64 ((0:Nat):Int),.int .u64 ((0:Nat):Int),.int .u64 ((0:Nat):Int)]):=hid (Q8 _ _ (by simp) _ _);have H:=hid (((h.at_ (i+1) ((i:Int)+1) (by simp)).alloc (.cells #[.int .i64 2,.int .u64 ((0:Nat):Int),.int .u64 ((0:Nat):Int),.int .u64 ((0:Nat):Int),.int .u64 ((0:Nat):Int)] 114)).drew);have HF:=hid ((Fm.setM M w 1 (.int .i64 ((i:Int)+1))).trans (Fm.below (M:=M) ((br_.alloc (lr_ _) (.cells #[.int .i64 2,.int .u64 ((0:Nat):Int),.int .u64 ((0:Nat):Int),.int .u64 ((0:Nat):Int),.int .u64 ((0:Nat):Int)] 114)).drew)));obtain⟨q0,q1,q2,q3,Z⟩:=p.out _ h.bel i _ hat.empty;have Y:=λo=>(q o).1
   have V:=λo=>(q o).2.1
   have T:=λo=>(q o).2.2.1
   have R:=λo=>(q o).2.2.2.1
   have Q:=λo=>(q o).2.2.2.2
   dsimp only[zc] at q0 q1 q2 q3 Z Y V T R Q;have z1:=λo=>(h.alloc o).mb.frozen 1
   have ah:=h.mb.lt;clear h q hat;go_enter func159,ntmps159;go_wp2_with fail;go_region;go_wp2_with fail;refine(X6 _ _ _ _ _ _ _ _ _ _ H.out).mono ?_;rintro e w1⟨rfl,rfl⟩;have n0:=J.out.cell 0;simp only[List.getElem?_toArray,List.getElem?_cons_succ,List.getElem?_cons_zero] at n0;go_wp2_with fail
   go_end0
   exact⟨rfl,_,H.out.cast (by simp[A0] <;> omega) (by simp[F7]),HF.out⟩
 | bgn =>
   intro i S v w hat hS h;have hlt:=hat.lt;have E:=G0 .bgn;have af:(i:Int)<l.length:=by omega
   have ag:(0:Int)<=i:=by omega
   have c0:=λo=>(h.alloc o).mb.cell 0
   have c1:=λo=>(h.alloc o).mb.cell 1
   have d0:=h.mb.cell 0;have d1:=h.mb.cell 1;simp only[List.getElem?_toArray,List.getElem?_cons_succ,List.getElem?_cons_zero] at c0 c1 d0 d1;have q:=λo=>p.out _ (h.alloc o).bel i _ hat.bgn
   have J:Hid (J0 (((w.setCell ⟨M,1,none⟩ (.int .i64 ((i:Int)+1))).alloc (.cells #[.int .i64 8,.int .u64 ((0:Nat):Int),.int .u64 ((0:Nat):Int),.int .u64 ((0:Nat):Int),.int .u64 ((0:Nat):Int)] 114)).drew) w.heap.size 114 #[.int .i64 8,.int .u64 ((0:Nat):Int),.int .u64 ((0:Nat):Int),.int .u64 ((0:Nat):Int),.int .u64 ((0:Nat):Int)]):=hid (Q8 _ _ (by simp) _ _);have H:=hid (((h.at_ (i+1) ((i:Int)+1) (by simp)).alloc (.cells #[.int .i64 8,.int .u64 ((0:Nat):Int),.int .u64 ((0:Nat):Int),.int .u64 ((0:Nat):Int),.int .u64 ((0:Nat):Int)] 114)).drew);have HF:=hid ((Fm.setM M w 1 (.int .i64 ((i:Int)+1))).trans (Fm.below (M:=M) ((br_.alloc (lr_ _) (.cells #[.int .i64 8,.int .u64 ((0:Nat):Int),.int .u64 ((0:Nat):Int),.int .u64 ((0:Nat):Int),.int .u64 ((0:Nat):Int)] 114)).drew)));obtain⟨q0,q1,q2,q3,Z⟩:=p.out _ h.bel i _ hat.bgn;have Y:=λo=>(q o).1
   have V:=λo=>(q o).2.1
   have T:=λo=>(q o).2.2.1
   have R:=λo=>(q o).2.2.2.1
   have Q:=λo=>(q o).2.2.2.2
   dsimp only[zc] at q0 q1 q2 q3 Z Y V T R Q;have z1:=λo=>(h.alloc o).mb.frozen 1
   have ah:=h.mb.lt;clear h q hat;go_enter func159,ntmps159;go_wp2_with fail;go_region;go_wp2_with fail;refine(X6 _ _ _ _ _ _ _ _ _ _ H.out).mono ?_;rintro e w1⟨rfl,rfl⟩;have n0:=J.out.cell 0;simp only[List.getElem?_toArray,List.getElem?_cons_succ,List.getElem?_cons_zero] at n0;go_wp2_with fail;refine(Y8 _ _ _ _ _ _ _ S _ 3 ((S.length:Int)+1) 0 0 0 0 0 _ (by simp[sz] at hS;omega) H.out).mono ?_;rintro e w2⟨rfl,v2,d,f⟩;have z:=hid d;have aB:=hid (HF.out.trans f);clear d f;go_wp2_with fail
   go_end0
   exact⟨rfl,_,z.out.cast (by simp[A0] <;> omega) (by simp[F7,zc]),aB.out⟩
 | fin =>
   intro i S v w hat hS h;have hlt:=hat.lt;have E:=G0 .fin;have af:(i:Int)<l.length:=by omega
   have ag:(0:Int)<=i:=by omega
   have c0:=λo=>(h.alloc o).mb.cell 0
   have c1:=λo=>(h.alloc o).mb.cell 1
   have d0:=h.mb.cell 0;have d1:=h.mb.cell 1;simp only[List.getElem?_toArray,List.getElem?_cons_succ,List.getElem?_cons_zero] at c0 c1 d0 d1;have q:=λo=>p.out _ (h.alloc o).bel i _ hat.fin
   have J:Hid (J0 (((w.setCell ⟨M,1,none⟩ (.int .i64 ((i:Int)+1))).alloc (.cells #[.int .i64 9,.int .u64 ((0:Nat):Int),.int .u64 ((0:Nat):Int),.int .u64 ((0:Nat):Int),.int .u64 ((0:Nat):Int)] 114)).drew) w.heap.size 114 #[.int .i64 9,.int .u64 ((0:Nat):Int),.int .u64 ((0:Nat):Int),.int .u64 ((0:Nat):Int),.int .u64 ((0:Nat):Int)]):=hid (Q8 _ _ (by simp) _ _);have H:=hid (((h.at_ (i+1) ((i:Int)+1) (by simp)).alloc (.cells #[.int .i64 9,.int .u64 ((0:Nat):Int),.int .u64 ((0:Nat):Int),.int .u64 ((0:Nat):Int),.int .u64 ((0:Nat):Int)] 114)).drew);have HF:=hid ((Fm.setM M w 1 (.int .i64 ((i:Int)+1))).trans (Fm.below (M:=M) ((br_.alloc (lr_ _) (.cells #[.int .i64 9,.int .u64 ((0:Nat):Int),.int .u64 ((0:Nat):Int),.int .u64 ((0:Nat):Int),.int .u64 ((0:Nat):Int)] 114)).drew)));obtain⟨q0,q1,q2,q3,Z⟩:=p.out _ h.bel i _ hat.fin;have Y:=λo=>(q o).1
   have V:=λo=>(q o).2.1
   have T:=λo=>(q o).2.2.1
   have R:=λo=>(q o).2.2.2.1
   have Q:=λo=>(q o).2.2.2.2
   dsimp only[zc] at q0 q1 q2 q3 Z Y V T R Q;have z1:=λo=>(h.alloc o).mb.frozen 1
   have ah:=h.mb.lt;clear h q hat;go_enter func159,ntmps159;go_wp2_with fail;go_region;go_wp2_with fail;refine(X6 _ _ _ _ _ _ _ _ _ _ H.out).mono ?_;rintro e w1⟨rfl,rfl⟩;have n0:=J.out.cell 0;simp only[List.getElem?_toArray,List.getElem?_cons_succ,List.getElem?_cons_zero] at n0;go_wp2_with fail;refine(Y8 _ _ _ _ _ _ _ S _ 4 ((S.length:Int)+1) 0 0 0 0 0 _ (by simp[sz] at hS;omega) H.out).mono ?_;rintro e w2⟨rfl,v2,d,f⟩;have z:=hid d;have aB:=hid (HF.out.trans f);clear d f;go_wp2_with fail
   go_end0
   exact⟨rfl,_,z.out.cast (by simp[A0] <;> omega) (by simp[F7,zc]),aB.out⟩
 | cat a b iha ihb =>
   intro i S v w hat hS h;have hlt:=hat.lt;have P:=hid iha;have aQ:=hid ihb;have L:=hid hat;simp only[sz] at hS;clear iha ihb;have E:=G0 (.cat a b);have af:(i:Int)<l.length:=by omega
   have ag:(0:Int)<=i:=by omega
   have c0:=λo=>(h.alloc o).mb.cell 0
   have c1:=λo=>(h.alloc o).mb.cell 1
   have d0:=h.mb.cell 0;have d1:=h.mb.cell 1;simp only[List.getElem?_toArray,List.getElem?_cons_succ,List.getElem?_cons_zero] at c0 c1 d0 d1;have q:=λo=>p.out _ (h.alloc o).bel i _ hat.cat.1
   have J:Hid (J0 (((w.setCell ⟨M,1,none⟩ (.int .i64 ((i:Int)+1))).alloc (.cells #[.int .i64 3,.int .u64 ((0:Nat):Int),.int .u64 ((0:Nat):Int),.int .u64 ((0:Nat):Int),.int .u64 ((0:Nat):Int)] 114)).drew) w.heap.size 114 #[.int .i64 3,.int .u64 ((0:Nat):Int),.int .u64 ((0:Nat):Int),.int .u64 ((0:Nat):Int),.int .u64 ((0:Nat):Int)]):=hid (Q8 _ _ (by simp) _ _);have H:=hid (((h.at_ (i+1) ((i:Int)+1) (by simp)).alloc (.cells #[.int .i64 3,.int .u64 ((0:Nat):Int),.int .u64 ((0:Nat):Int),.int .u64 ((0:Nat):Int),.int .u64 ((0:Nat):Int)] 114)).drew);have HF:=hid ((Fm.setM M w 1 (.int .i64 ((i:Int)+1))).trans (Fm.below (M:=M) ((br_.alloc (lr_ _) (.cells #[.int .i64 3,.int .u64 ((0:Nat):Int),.int .u64 ((0:Nat):Int),.int .u64 ((0:Nat):Int),.int .u64 ((0:Nat):Int)] 114)).drew)));obtain⟨q0,q1,q2,q3,Z⟩:=p.out _ h.bel i _ hat.cat.1;have Y:=λo=>(q o).1
   have V:=λo=>(q o).2.1
   have T:=λo=>(q o).2.2.1
   have R:=λo=>(q o).2.2.2.1
   have Q:=λo=>(q o).2.2.2.2
   dsimp only[zc] at q0 q1 q2 q3 Z Y V T R Q;have z1:=λo=>(h.alloc o).mb.frozen 1
   have ah:=h.mb.lt;clear h q hat;go_enter func159,ntmps159;go_wp2_with fail;go_region;go_wp2_with fail;refine(X6 _ _ _ _ _ _ _ _ _ _ H.out).mono ?_;rintro e w1⟨rfl,rfl⟩;have n0:=J.out.cell 0;simp only[List.getElem?_toArray,List.getElem?_cons_succ,List.getElem?_cons_zero] at n0;go_wp2_with fail;refine(P.out (i+1) S v _ L.out.cat.2.1 (by omega) H.out).mono ?_;rintro e w2⟨rfl,v2,d,f⟩;have z:=hid d;have aB:=hid (HF.out.trans f);clear d f;go_wp2_with fail;refine(aQ.out (i+1+(A0 a).length) (S++F7 a S.length) v2 _ L.out.cat.2.2 (by rw[List.length_append,Z1];omega) z.out).mono ?_;rintro e w3⟨rfl,v3,d,f⟩;have D:=hid d;have bt:=hid (aB.out.trans f);clear d f;go_wp2_with fail
   go_end0
   exact⟨rfl,_,D.out.cast (by simp[A0] <;> omega) (by simp[F7,Z1]),bt.out⟩
 | plus a iha =>
   intro i S v w hat hS h;have hlt:=hat.lt;have P:=hid iha;have L:=hid hat;simp only[sz] at hS;clear iha;have E:=G0 (.plus a);have af:(i:Int)<l.length:=by omega
   have ag:(0:Int)<=i:=by omega
   have c0:=λo=>(h.alloc o).mb.cell 0
   have c1:=λo=>(h.alloc o).mb.cell 1
   have d0:=h.mb.cell 0;have d1:=h.mb.cell 1;simp only[List.getElem?_toArray,List.getElem?_cons_succ,List.getElem?_cons_zero] at c0 c1 d0 d1;have q:=λo=>p.out _ (h.alloc o).bel i _ hat.plus.1
   have J:Hid (J0 (((w.setCell ⟨M,1,none⟩ (.int .i64 ((i:Int)+1))).alloc (.cells #[.int .i64 6,.int .u64 ((0:Nat):Int),.int .u64 ((0:Nat):Int),.int .u64 ((0:Nat):Int),.int .u64 ((0:Nat):Int)] 114)).drew) w.heap.size 114 #[.int .i64 6,.int .u64 ((0:Nat):Int),.int .u64 ((0:Nat):Int),.int .u64 ((0:Nat):Int),.int .u64 ((0:Nat):Int)]):=hid (Q8 _ _ (by simp) _ _);have H:=hid (((h.at_ (i+1) ((i:Int)+1) (by simp)).alloc (.cells #[.int .i64 6,.int .u64 ((0:Nat):Int),.int .u64 ((0:Nat):Int),.int .u64 ((0:Nat):Int),.int .u64 ((0:Nat):Int)] 114)).drew);have HF:=hid ((Fm.setM M w 1 (.int .i64 ((i:Int)+1))).trans (Fm.below (M:=M) ((br_.alloc (lr_ _) (.cells #[.int .i64 6,.int .u64 ((0:Nat):Int),.int .u64 ((0:Nat):Int),.int .u64 ((0:Nat):Int),.int .u64 ((0:Nat):Int)] 114)).drew)));obtain⟨q0,q1,q2,q3,Z⟩:=p.out _ h.bel i _ hat.plus.1;have Y:=λo=>(q o).1
   have V:=λo=>(q o).2.1
   have T:=λo=>(q o).2.2.1
   have R:=λo=>(q o).2.2.2.1
   have Q:=λo=>(q o).2.2.2.2
   dsimp only[zc] at q0 q1 q2 q3 Z Y V T R Q;have z1:=λo=>(h.alloc o).mb.frozen 1
   have ah:=h.mb.lt;clear h q hat;go_enter func159,ntmps159;go_wp2_with fail;go_region;go_wp2_with fail;refine(X6 _ _ _ _ _ _ _ _ _ _ H.out).mono ?_;rintro e w1⟨rfl,rfl⟩;have n0:=J.out.cell 0;simp only[List.getElem?_toArray,List.getElem?_cons_succ,List.getElem?_cons_zero] at n0;have aA:=hid (Fm.refl M ((w.setCell ⟨M,1,none⟩ (.int .i64 ((i:Int)+1))).alloc (.cells #[.int .i64 6,.int .u64 ((0:Nat):Int),.int .u64 ((0:Nat):Int),.int .u64 ((0:Nat):Int),.int .u64 ((0:Nat):Int)] 114)).drew);go_wp2_with fail;refine(P.out (i+1) S v _ L.out.plus.2 (by omega) H.out).mono ?_;rintro e w2⟨rfl,v2,d,f⟩;obtain⟨F,t⟩:∃X,X=S++F7 a S.length:=⟨_,rfl⟩
   have O:=hid t;have j:Hid (F.length=S.length+sz a):=hid (by rw[t];simp[Z1];try omega);rw[←t] at d;clear t;have aN:F.length<=1000:=by have:=j.out;first | omega | (have:=j.out;omega) | (have:=j.out;have:=m.out;omega) | (have:=j.out;have:=m.out;have:=r.out;omega)
   have z:=hid d;have az:=hid (aA.out.trans f);clear d f;go_wp2_with fail;refine(X6 _ _ _ _ _ _ _ _ _ _ z.out).mono ?_;rintro e w3⟨rfl,rfl⟩;go_wp2_with fail;refine(Y8 _ _ _ _ _ _ _ F _ 2 (S.length:Int) ((F.length:Int)+1) 0 0 0 0 _ (by have:=j.out;omega) z.out).mono ?_;rintro e w4⟨rfl,v4,d,f⟩;obtain⟨A,B⟩:∃X,X=F++[⟨2,(0,0,0,0),(S.length:Int),(F.length:Int)+1⟩]:=⟨_,rfl⟩
   have ao:=hid B;have r:Hid (A.length=F.length+1):=hid (by rw[B];simp[Z1];try omega);rw[←B] at d;clear B;have aY:A.length<=1000:=by have:=r.out;first | omega | (have:=j.out;omega) | (have:=j.out;have:=m.out;omega) | (have:=j.out;have:=m.out;have:=r.out;omega)
   have y:=hid d;have aF:=hid (az.out.trans f);clear d f;go_wp2_with fail
   go_end0
   exact⟨rfl,_,y.out.cast (by simp[A0] <;> omega) (by rw[ao.out,j.out,O.out];simp[F7,Z1,zc]),(HF.out.trans aF.out)⟩
 | opt a iha =>
   intro i S v w hat hS h;have hlt:=hat.lt;have P:=hid iha;have L:=hid hat;simp only[sz] at hS;clear iha;have E:=G0 (.opt a);have af:(i:Int)<l.length:=by omega
   have ag:(0:Int)<=i:=by omega
   have c0:=λo=>(h.alloc o).mb.cell 0
   have c1:=λo=>(h.alloc o).mb.cell 1
   have d0:=h.mb.cell 0;have d1:=h.mb.cell 1;simp only[List.getElem?_toArray,List.getElem?_cons_succ,List.getElem?_cons_zero] at c0 c1 d0 d1;have q:=λo=>p.out _ (h.alloc o).bel i _ hat.opt.1
   have J:Hid (J0 (((w.setCell ⟨M,1,none⟩ (.int .i64 ((i:Int)+1))).alloc (.cells #[.int .i64 7,.int .u64 ((0:Nat):Int),.int .u64 ((0:Nat):Int),.int .u64 ((0:Nat):Int),.int .u64 ((0:Nat):Int)] 114)).drew) w.heap.size 114 #[.int .i64 7,.int .u64 ((0:Nat):Int),.int .u64 ((0:Nat):Int),.int .u64 ((0:Nat):Int),.int .u64 ((0:Nat):Int)]):=hid (Q8 _ _ (by simp) _ _);have H:=hid (((h.at_ (i+1) ((i:Int)+1) (by simp)).alloc (.cells #[.int .i64 7,.int .u64 ((0:Nat):Int),.int .u64 ((0:Nat):Int),.int .u64 ((0:Nat):Int),.int .u64 ((0:Nat):Int)] 114)).drew);have HF:=hid ((Fm.setM M w 1 (.int .i64 ((i:Int)+1))).trans (Fm.below (M:=M) ((br_.alloc (lr_ _) (.cells #[.int .i64 7,.int .u64 ((0:Nat):Int),.int .u64 ((0:Nat):Int),.int .u64 ((0:Nat):Int),.int .u64 ((0:Nat):Int)] 114)).drew)));obtain⟨q0,q1,q2,q3,Z⟩:=p.out _ h.bel i _ hat.opt.1;have Y:=λo=>(q o).1
   have V:=λo=>(q o).2.1
   have T:=λo=>(q o).2.2.1
   have R:=λo=>(q o).2.2.2.1
   have Q:=λo=>(q o).2.2.2.2
   dsimp only[zc] at q0 q1 q2 q3 Z Y V T R Q;have z1:=λo=>(h.alloc o).mb.frozen 1
   have ah:=h.mb.lt;clear h q hat;go_enter func159,ntmps159;go_wp2_with fail;go_region;go_wp2_with fail;refine(X6 _ _ _ _ _ _ _ _ _ _ H.out).mono ?_;rintro e w1⟨rfl,rfl⟩;have n0:=J.out.cell 0;simp only[List.getElem?_toArray,List.getElem?_cons_succ,List.getElem?_cons_zero] at n0;have aA:=hid (Fm.refl M ((w.setCell ⟨M,1,none⟩ (.int .i64 ((i:Int)+1))).alloc (.cells #[.int .i64 7,.int .u64 ((0:Nat):Int),.int .u64 ((0:Nat):Int),.int .u64 ((0:Nat):Int),.int .u64 ((0:Nat):Int)] 114)).drew);go_wp2_with fail;refine(Y8 _ _ _ _ _ _ _ S _ 2 ((S.length:Int)+1) 0 0 0 0 0 _ (by omega) H.out).mono ?_;rintro e w2⟨rfl,v2,d,f⟩;obtain⟨F,t⟩:∃X,X=S++[⟨2,(0,0,0,0),(S.length:Int)+1,0⟩]:=⟨_,rfl⟩
   have O:=hid t;have j:Hid (F.length=S.length+1):=hid (by rw[t];simp[Z1];try omega);rw[←t] at d;clear t;have aN:F.length<=1000:=by have:=j.out;first | omega | (have:=j.out;omega) | (have:=j.out;have:=m.out;omega) | (have:=j.out;have:=m.out;have:=r.out;omega)
   have z:=hid d;have az:=hid (aA.out.trans f);clear d f;go_wp2_with fail;refine(P.out (i+1) F _ _ L.out.opt.2 (by have:=j.out;omega) z.out).mono ?_;rintro e w3⟨rfl,v3,d,f⟩;obtain⟨s,C⟩:∃X,X=F++F7 a F.length:=⟨_,rfl⟩
   have ap:=hid C;have m:Hid (s.length=S.length+1+sz a):=hid (by rw[C];simp[Z1,j.out];try omega);rw[←C] at d;clear C;have aZ:s.length<=1000:=by have:=m.out;first | omega | (have:=j.out;omega) | (have:=j.out;have:=m.out;omega) | (have:=j.out;have:=m.out;have:=r.out;omega)
   have D:=hid d;have ay:=hid (az.out.trans f);clear d f;have n0':=(J0.fm J.out ay.out (by decide) (by omega)).cell 0;simp only[List.getElem?_toArray,List.getElem?_cons_succ,List.getElem?_cons_zero] at n0';obtain⟨g,c,rfl⟩:=D.out.form (by have:=m.out;omega);obtain⟨a1,a2,a3,a4,a5,a6⟩:=D.out.step;have hk:s[S.length]?=some ⟨2,(0,0,0,0),(S.length:Int)+1,0⟩:=by rw[ap.out,O.out];simp
   obtain⟨b5,b6⟩:=a6 _ _ hk;have z6:=a5 (S.length*7+6);have z5:=a5 (S.length*7+5);have m2:=D.out.mb.cell 2;simp only[List.getElem?_toArray,List.getElem?_cons_succ,List.getElem?_cons_zero] at m2;have i1:((S.length:Nat):Int)<(s.length:Int):=by have:=m.out;omega
   have i0:(0:Int)<=((S.length:Nat):Int):=by omega
   have HK:=hid hk;clear a5 a6 hk;go_wp2_with fail;have N:w3.drew.cell? ⟨M,2,none⟩=some (.slice (some ⟨g,0,none⟩) s.length c):=m2;have G:∀u,(w3.drew.setCell ⟨g,S.length*7+6,none⟩ u).cell? ⟨M,2,none⟩=some (.slice (some ⟨g,0,none⟩) s.length c):=λu=>(World.cell?_setCell_other _ _ _ _ (by simp <;> omega)).trans m2
   have aE:=hid (X6 _ _ _ _ _ _ _ s (.slice (some ⟨g,0,none⟩) s.length c) _ D.out.drew)
   go_region_held3 (λw'=>w'.cell? ⟨M,2,none⟩=some (.slice (some ⟨g,0,none⟩) s.length c)) (first | exact N | exact G _) (first | (go_at_call 184;refine aE.out.mono ?_;rintro e w'⟨rfl,rfl⟩))
   clear N G
   all_goals (
    go_wp2_with fail
    go_end0
    exact⟨rfl,_,(by first | exact(D.out.drew.setY HK.out (s.length:Int)).cast rfl rfl | exact((D.out.setY HK.out (s.length:Int)).drew).cast rfl rfl:P7 _ _ _ _ _ _ _ (s.set S.length ⟨2,(0,0,0,0),(S.length:Int)+1,(s.length:Int)⟩) _ _).cast (by simp[A0] <;> omega) (by rw[m.out,ap.out,O.out,A4k];simp[F7,zc]),HF.out.trans ((ay.out.trans (Fm.below br_.drew)).trans (Fm.row D.out.drew.row _ _))⟩)
 | star a iha =>
   intro i S v w hat hS h;have hlt:=hat.lt;have P:=hid iha;have L:=hid hat;simp only[sz] at hS;clear iha;have E:=G0 (.star a);have af:(i:Int)<l.length:=by omega
   have ag:(0:Int)<=i:=by omega
   have c0:=λo=>(h.alloc o).mb.cell 0
   have c1:=λo=>(h.alloc o).mb.cell 1
   have d0:=h.mb.cell 0;have d1:=h.mb.cell 1;simp only[List.getElem?_toArray,List.getElem?_cons_succ,List.getElem?_cons_zero] at c0 c1 d0 d1;have q:=λo=>p.out _ (h.alloc o).bel i _ hat.star.1
   have J:Hid (J0 (((w.setCell ⟨M,1,none⟩ (.int .i64 ((i:Int)+1))).alloc (.cells #[.int .i64 5,.int .u64 ((0:Nat):Int),.int .u64 ((0:Nat):Int),.int .u64 ((0:Nat):Int),.int .u64 ((0:Nat):Int)] 114)).drew) w.heap.size 114 #[.int .i64 5,.int .u64 ((0:Nat):Int),.int .u64 ((0:Nat):Int),.int .u64 ((0:Nat):Int),.int .u64 ((0:Nat):Int)]):=hid (Q8 _ _ (by simp) _ _);have H:=hid (((h.at_ (i+1) ((i:Int)+1) (by simp)).alloc (.cells #[.int .i64 5,.int .u64 ((0:Nat):Int),.int .u64 ((0:Nat):Int),.int .u64 ((0:Nat):Int),.int .u64 ((0:Nat):Int)] 114)).drew);have HF:=hid ((Fm.setM M w 1 (.int .i64 ((i:Int)+1))).trans (Fm.below (M:=M) ((br_.alloc (lr_ _) (.cells #[.int .i64 5,.int .u64 ((0:Nat):Int),.int .u64 ((0:Nat):Int),.int .u64 ((0:Nat):Int),.int .u64 ((0:Nat):Int)] 114)).drew)));obtain⟨q0,q1,q2,q3,Z⟩:=p.out _ h.bel i _ hat.star.1;have Y:=λo=>(q o).1
   have V:=λo=>(q o).2.1
   have T:=λo=>(q o).2.2.1
   have R:=λo=>(q o).2.2.2.1
   have Q:=λo=>(q o).2.2.2.2
   dsimp only[zc] at q0 q1 q2 q3 Z Y V T R Q;have z1:=λo=>(h.alloc o).mb.frozen 1
   have ah:=h.mb.lt;clear h q hat;go_enter func159,ntmps159;go_wp2_with fail;go_region;go_wp2_with fail;refine(X6 _ _ _ _ _ _ _ _ _ _ H.out).mono ?_;rintro e w1⟨rfl,rfl⟩;have n0:=J.out.cell 0;simp only[List.getElem?_toArray,List.getElem?_cons_succ,List.getElem?_cons_zero] at n0;have aA:=hid (Fm.refl M ((w.setCell ⟨M,1,none⟩ (.int .i64 ((i:Int)+1))).alloc (.cells #[.int .i64 5,.int .u64 ((0:Nat):Int),.int .u64 ((0:Nat):Int),.int .u64 ((0:Nat):Int),.int .u64 ((0:Nat):Int)] 114)).drew);go_wp2_with fail;refine(Y8 _ _ _ _ _ _ _ S _ 2 ((S.length:Int)+1) 0 0 0 0 0 _ (by omega) H.out).mono ?_;rintro e w2⟨rfl,v2,d,f⟩;obtain⟨F,t⟩:∃X,X=S++[⟨2,(0,0,0,0),(S.length:Int)+1,0⟩]:=⟨_,rfl⟩
   have O:=hid t;have j:Hid (F.length=S.length+1):=hid (by rw[t];simp[Z1];try omega);rw[←t] at d;clear t;have aN:F.length<=1000:=by have:=j.out;first | omega | (have:=j.out;omega) | (have:=j.out;have:=m.out;omega) | (have:=j.out;have:=m.out;have:=r.out;omega)
   have z:=hid d;have az:=hid (aA.out.trans f);clear d f;go_wp2_with fail;refine(P.out (i+1) F _ _ L.out.star.2 (by have:=j.out;omega) z.out).mono ?_;rintro e w3⟨rfl,v3,d,f⟩;obtain⟨s,C⟩:∃X,X=F++F7 a F.length:=⟨_,rfl⟩
   have ap:=hid C;have m:Hid (s.length=S.length+1+sz a):=hid (by rw[C];simp[Z1,j.out];try omega);rw[←C] at d;clear C;have aZ:s.length<=1000:=by have:=m.out;first | omega | (have:=j.out;omega) | (have:=j.out;have:=m.out;omega) | (have:=j.out;have:=m.out;have:=r.out;omega)
   have D:=hid d;have ay:=hid (az.out.trans f);clear d f;have n0':=(J0.fm J.out ay.out (by decide) (by omega)).cell 0;simp only[List.getElem?_toArray,List.getElem?_cons_succ,List.getElem?_cons_zero] at n0';go_wp2_with fail;refine(X6 _ _ _ _ _ _ _ _ _ _ D.out).mono ?_;rintro e bz⟨rfl,rfl⟩;go_wp2_with fail;refine(Y8 _ _ _ _ _ _ _ s _ 2 ((S.length:Int)+1) ((s.length:Int)+1) 0 0 0 0 _ (by have:=m.out;omega) D.out).mono ?_;rintro e w4⟨rfl,v4,d,f⟩;obtain⟨A,B⟩:∃X,X=s++[⟨2,(0,0,0,0),(S.length:Int)+1,(s.length:Int)+1⟩]:=⟨_,rfl⟩
   have ao:=hid B;have r:Hid (A.length=s.length+1):=hid (by rw[B];simp[Z1];try omega);rw[←B] at d;clear B;have aY:A.length<=1000:=by have:=r.out;first | omega | (have:=j.out;omega) | (have:=j.out;have:=m.out;omega) | (have:=j.out;have:=m.out;have:=r.out;omega)
   have y:=hid d;have aF:=hid (ay.out.trans f);clear d f;obtain⟨g,c,rfl⟩:=y.out.form (by have:=r.out;have:=m.out;omega);obtain⟨a1,a2,a3,a4,a5,a6⟩:=y.out.step;have hk:A[S.length]?=some ⟨2,(0,0,0,0),(S.length:Int)+1,0⟩:=by rw[ao.out,ap.out,O.out];simp
   obtain⟨b5,b6⟩:=a6 _ _ hk;have z6:=a5 (S.length*7+6);have z5:=a5 (S.length*7+5);have m2:=y.out.mb.cell 2;simp only[List.getElem?_toArray,List.getElem?_cons_succ,List.getElem?_cons_zero] at m2;have i1:((S.length:Nat):Int)<(A.length:Int):=by have:=r.out;have:=m.out;omega
   have i0:(0:Int)<=((S.length:Nat):Int):=by omega
   have HK:=hid hk;clear a5 a6 hk;go_wp2_with fail;have N:w4.drew.cell? ⟨M,2,none⟩=some (.slice (some ⟨g,0,none⟩) A.length c):=m2;have G:∀u,(w4.drew.setCell ⟨g,S.length*7+6,none⟩ u).cell? ⟨M,2,none⟩=some (.slice (some ⟨g,0,none⟩) A.length c):=λu=>(World.cell?_setCell_other _ _ _ _ (by simp <;> omega)).trans m2
   have aE:=hid (X6 _ _ _ _ _ _ _ A (.slice (some ⟨g,0,none⟩) A.length c) _ y.out.drew)
   go_region_held3 (λw'=>w'.cell? ⟨M,2,none⟩=some (.slice (some ⟨g,0,none⟩) A.length c)) (first | exact N | exact G _) (first | (go_at_call 184;refine aE.out.mono ?_;rintro e w'⟨rfl,rfl⟩))
   clear N G
   all_goals (
    go_wp2_with fail
    go_end0
    exact⟨rfl,_,(by first | exact(y.out.drew.setY HK.out (A.length:Int)).cast rfl rfl | exact((y.out.setY HK.out (A.length:Int)).drew).cast rfl rfl:P7 _ _ _ _ _ _ _ (A.set S.length ⟨2,(0,0,0,0),(S.length:Int)+1,(A.length:Int)⟩) _ _).cast (by simp[A0] <;> omega) (by rw[r.out,m.out,ao.out,m.out,ap.out,O.out,List.append_assoc (S++[_]),A4k];simp[F7,zc]),HF.out.trans ((aF.out.trans (Fm.below br_.drew)).trans (Fm.row y.out.drew.row _ _))⟩)
 | alt a b iha ihb =>
   intro i S v w hat hS h;have hlt:=hat.lt;have P:=hid iha;have aQ:=hid ihb;have L:=hid hat;simp only[sz] at hS;clear iha ihb;have E:=G0 (.alt a b);have af:(i:Int)<l.length:=by omega
   have ag:(0:Int)<=i:=by omega
   have c0:=λo=>(h.alloc o).mb.cell 0
   have c1:=λo=>(h.alloc o).mb.cell 1
   have d0:=h.mb.cell 0;have d1:=h.mb.cell 1;simp only[List.getElem?_toArray,List.getElem?_cons_succ,List.getElem?_cons_zero] at c0 c1 d0 d1;have q:=λo=>p.out _ (h.alloc o).bel i _ hat.alt.1
   have J:Hid (J0 (((w.setCell ⟨M,1,none⟩ (.int .i64 ((i:Int)+1))).alloc (.cells #[.int .i64 4,.int .u64 ((0:Nat):Int),.int .u64 ((0:Nat):Int),.int .u64 ((0:Nat):Int),.int .u64 ((0:Nat):Int)] 114)).drew) w.heap.size 114 #[.int .i64 4,.int .u64 ((0:Nat):Int),.int .u64 ((0:Nat):Int),.int .u64 ((0:Nat):Int),.int .u64 ((0:Nat):Int)]):=hid (Q8 _ _ (by simp) _ _);have H:=hid (((h.at_ (i+1) ((i:Int)+1) (by simp)).alloc (.cells #[.int .i64 4,.int .u64 ((0:Nat):Int),.int .u64 ((0:Nat):Int),.int .u64 ((0:Nat):Int),.int .u64 ((0:Nat):Int)] 114)).drew);have HF:=hid ((Fm.setM M w 1 (.int .i64 ((i:Int)+1))).trans (Fm.below (M:=M) ((br_.alloc (lr_ _) (.cells #[.int .i64 4,.int .u64 ((0:Nat):Int),.int .u64 ((0:Nat):Int),.int .u64 ((0:Nat):Int),.int .u64 ((0:Nat):Int)] 114)).drew)));obtain⟨q0,q1,q2,q3,Z⟩:=p.out _ h.bel i _ hat.alt.1;have Y:=λo=>(q o).1
   have V:=λo=>(q o).2.1
   have T:=λo=>(q o).2.2.1
   have R:=λo=>(q o).2.2.2.1
   have Q:=λo=>(q o).2.2.2.2
   dsimp only[zc] at q0 q1 q2 q3 Z Y V T R Q;have z1:=λo=>(h.alloc o).mb.frozen 1
   have ah:=h.mb.lt;clear h q hat;go_enter func159,ntmps159;go_wp2_with fail;go_region;go_wp2_with fail;refine(X6 _ _ _ _ _ _ _ _ _ _ H.out).mono ?_;rintro e w1⟨rfl,rfl⟩;have n0:=J.out.cell 0;simp only[List.getElem?_toArray,List.getElem?_cons_succ,List.getElem?_cons_zero] at n0;have aA:=hid (Fm.refl M ((w.setCell ⟨M,1,none⟩ (.int .i64 ((i:Int)+1))).alloc (.cells #[.int .i64 4,.int .u64 ((0:Nat):Int),.int .u64 ((0:Nat):Int),.int .u64 ((0:Nat):Int),.int .u64 ((0:Nat):Int)] 114)).drew);go_wp2_with fail;refine(Y8 _ _ _ _ _ _ _ S _ 2 ((S.length:Int)+1) 0 0 0 0 0 _ (by omega) H.out).mono ?_;rintro e w2⟨rfl,v2,d,f⟩;obtain⟨F,t⟩:∃X,X=S++[⟨2,(0,0,0,0),(S.length:Int)+1,0⟩]:=⟨_,rfl⟩
   have O:=hid t;have j:Hid (F.length=S.length+1):=hid (by rw[t];simp[Z1];try omega);rw[←t] at d;clear t;have aN:F.length<=1000:=by have:=j.out;first | omega | (have:=j.out;omega) | (have:=j.out;have:=m.out;omega) | (have:=j.out;have:=m.out;have:=r.out;omega)
   have z:=hid d;have az:=hid (aA.out.trans f);clear d f;go_wp2_with fail;refine(P.out (i+1) F _ _ L.out.alt.2.1 (by have:=j.out;omega) z.out).mono ?_;rintro e w3⟨rfl,v3,d,f⟩;obtain⟨s,C⟩:∃X,X=F++F7 a F.length:=⟨_,rfl⟩
   have ap:=hid C;have m:Hid (s.length=S.length+1+sz a):=hid (by rw[C];simp[Z1,j.out];try omega);rw[←C] at d;clear C;have aZ:s.length<=1000:=by have:=m.out;first | omega | (have:=j.out;omega) | (have:=j.out;have:=m.out;omega) | (have:=j.out;have:=m.out;have:=r.out;omega)
   have D:=hid d;have ay:=hid (az.out.trans f);clear d f;go_wp2_with fail;refine(Y8 _ _ _ _ _ _ _ s _ 2 0 0 0 0 0 0 _ (by have:=m.out;omega) D.out).mono ?_;rintro e w4⟨rfl,v4,d,f⟩;obtain⟨A,B⟩:∃X,X=s++[⟨2,(0,0,0,0),0,0⟩]:=⟨_,rfl⟩
   have ao:=hid B;have r:Hid (A.length=s.length+1):=hid (by rw[B];simp[Z1];try omega);rw[←B] at d;clear B;have aY:A.length<=1000:=by have:=r.out;first | omega | (have:=j.out;omega) | (have:=j.out;have:=m.out;omega) | (have:=j.out;have:=m.out;have:=r.out;omega)
   have y:=hid d;have aF:=hid (ay.out.trans f);clear d f;obtain⟨g,c,rfl⟩:=y.out.form (by have:=r.out;have:=m.out;omega);obtain⟨a1,a2,a3,a4,a5,a6⟩:=y.out.step;have hk:A[S.length]?=some ⟨2,(0,0,0,0),(S.length:Int)+1,0⟩:=by rw[ao.out,ap.out,O.out];simp
   obtain⟨b5,b6⟩:=a6 _ _ hk;have z6:=a5 (S.length*7+6);have z5:=a5 (S.length*7+5);have m2:=y.out.mb.cell 2;simp only[List.getElem?_toArray,List.getElem?_cons_succ,List.getElem?_cons_zero] at m2;have i1:((S.length:Nat):Int)<(A.length:Int):=by have:=r.out;have:=m.out;omega
   have i0:(0:Int)<=((S.length:Nat):Int):=by omega
   have HK:=hid hk;clear a5 a6 hk;go_wp2_with fail;have N:w4.drew.cell? ⟨M,2,none⟩=some (.slice (some ⟨g,0,none⟩) A.length c):=m2;have G:∀u,(w4.drew.setCell ⟨g,S.length*7+6,none⟩ u).cell? ⟨M,2,none⟩=some (.slice (some ⟨g,0,none⟩) A.length c):=λu=>(World.cell?_setCell_other _ _ _ _ (by simp <;> omega)).trans m2
   have aE:=hid (X6 _ _ _ _ _ _ _ A (.slice (some ⟨g,0,none⟩) A.length c) _ y.out.drew)
   go_region_held3 (λw'=>w'.cell? ⟨M,2,none⟩=some (.slice (some ⟨g,0,none⟩) A.length c)) (first | exact N | exact G _) (first | (go_at_call 184;refine aE.out.mono ?_;rintro e w'⟨rfl,rfl⟩))
   clear N G
   all_goals (
    obtain⟨S5,aH⟩:∃X,X=A.set S.length ⟨2,(0,0,0,0),(S.length:Int)+1,(A.length:Int)⟩:=⟨_,rfl⟩
    have bd:=hid aH;have aO:Hid (S5.length=A.length):=hid (by rw[aH];simp);have aM:=y.out.drew.setY HK.out (A.length:Int);rw[←aH] at aM;have bu:=hid aM;have bs:=hid ((aF.out.trans (Fm.below br_.drew)).trans (Fm.row (M:=M) y.out.drew.row (S.length*7+6) (.int .i64 A.length)));clear aH aM b5 b6 z5 z6 m2 a1 a2 a3 a4 i0 i1;go_wp2_with fail;refine(aQ.out (i+1+(A0 a).length) S5 _ _ L.out.alt.2.2 (by have:=aO.out;have:=r.out;have:=m.out;omega) bu.out).mono ?_;rintro e w6⟨rfl,v6,d,f⟩;obtain⟨S6,aG⟩:∃X,X=S5++F7 b S5.length:=⟨_,rfl⟩
    have bc:=hid aG;have aI:Hid (S6.length=S.length+2+sz a+sz b):=hid (by have:=aO.out;have:=r.out;have:=m.out;rw[aG];simp[Z1];omega);rw[←aG] at d;clear aG;have bF:S6.length<=1000:=by have:=aI.out;omega
    have ar:=hid d;have br:=hid (bs.out.trans f);clear d f;obtain⟨g',c',rfl⟩:=ar.out.form (by have:=aI.out;omega);obtain⟨a1,a2,a3,a4,a5,a6⟩:=ar.out.step
    have hk:S6[s.length]?=some ⟨2,(0,0,0,0),0,0⟩:=by
     have h3:=m.out;rw[bc.out,List.getElem?_append_left (by have:=aO.out;have:=r.out;omega),bd.out,List.getElem?_set_ne (by omega),ao.out];simp
    obtain⟨b5,b6⟩:=a6 _ _ hk;have z6:=a5 (s.length*7+6);have z5:=a5 (s.length*7+5);have b6':∀u,(w6.drew.setCell ⟨g',s.length*7+5,none⟩ u).cell? ⟨g',s.length*7+6,none⟩=some (.int .i64 0):=λu=>(World.cell?_setCell_other _ _ _ _ (by simp)).trans b6
    have b5':∀u,(w6.drew.setCell ⟨g',s.length*7+6,none⟩ u).cell? ⟨g',s.length*7+5,none⟩=some (.int .i64 0):=λu=>(World.cell?_setCell_other _ _ _ _ (by simp)).trans b5
    have m2:=ar.out.mb.cell 2;simp only[List.getElem?_toArray,List.getElem?_cons_succ,List.getElem?_cons_zero] at m2;have i1:((s.length:Nat):Int)<(S6.length:Int):=by have:=aI.out;have:=m.out;omega
    have i0:(0:Int)<=((s.length:Nat):Int):=by omega
    have bf:=hid hk;clear a5 a6 hk;go_wp2_with fail;have N:w6.drew.cell? ⟨M,2,none⟩=some (.slice (some ⟨g',0,none⟩) S6.length c'):=m2;have G:∀u,(w6.drew.setCell ⟨g',s.length*7+5,none⟩ u).cell? ⟨M,2,none⟩=some (.slice (some ⟨g',0,none⟩) S6.length c'):=λu=>(World.cell?_setCell_other _ _ _ _ (by simp <;> omega)).trans m2
    have bp:∀u u',((w6.drew.setCell ⟨g',s.length*7+5,none⟩ u).setCell ⟨g',s.length*7+6,none⟩ u').cell? ⟨M,2,none⟩=some (.slice (some ⟨g',0,none⟩) S6.length c'):=λu u'=>(World.cell?_setCell_other _ _ _ _ (by simp <;> omega)).trans (G u)
    have be:=hid (X6 _ _ _ _ _ _ _ S6 (.slice (some ⟨g',0,none⟩) S6.length c') _ ar.out.drew)
    go_region_held3 (λw'=>w'.cell? ⟨M,2,none⟩=some (.slice (some ⟨g',0,none⟩) S6.length c')) (first | exact N | exact G _ | exact bp _ _) (first | (go_at_call 184;refine be.out.mono ?_;rintro e w'⟨rfl,rfl⟩))
    all_goals (
     go_wp2_with fail
     go_end0
     exact⟨rfl,_,(by first | exact(ar.out.drew.setXY bf.out (S6.length:Int) (S6.length:Int)).cast rfl rfl | exact((ar.out.setXY bf.out (S6.length:Int) (S6.length:Int)).drew).cast rfl rfl:P7 _ _ _ _ _ _ _ (S6.set s.length ⟨2,(0,0,0,0),(S6.length:Int),(S6.length:Int)⟩) _ _).cast (by simp[A0] <;> omega) (B54 O.out ap.out ao.out bd.out bc.out m.out r.out aI.out),HF.out.trans ((br.out.trans (Fm.below br_.drew)).trans ((Fm.row ar.out.drew.row _ _).trans (Fm.row (by obtain⟨bG,hc⟩:=ar.out.drew.row;exact⟨_,hc.set_ _ _⟩) _ _)))⟩))
def C0Z(t:Rx)(w:W_)(e:Ending)(w':W_):Prop :=
 ∃g cap,e=.returned (.tuple #[.slice (some ⟨g,0,none⟩) (Q7 t).length cap,.nilIface])/\RdS w' (.slice (some ⟨g,0,none⟩) (Q7 t).length cap) (Q7 t)/\(w.heap.size<=g/\Below w.heap.size w w')
theorem C0E(l:List Nd)(t:Rx)(D:l=A0 t)(v:V_)(w:W_)(ht:l.length<=60)(Q:q7 w v l):Calls prog 129 #[v] w (C0Z t w):=by
 obtain⟨A,cap,rfl,F,z,r⟩:=Q.open_;have E:0<l.length:=by rw[D];exact G0 t
 have y:chk l=0:=by rw[D];exact A0k t (by rw[←D];exact ht)
 obtain⟨b,off,rfl,R,m⟩:=r E;have j:At l 0 t:=by rw[D];exact At.whole t
 have O:=B8K t;rw[←D] at O;have aa:=hid (λ(q:W_)(h1:Below w.heap.size w q) (M:Nat) (v:V_) (W:W_) (h:P7 q b off l.length cap M 0 [] v W)=>B4r q l b off cap M ht F z (λw' hb k n hk=>m w' (λo=>(h1.trans (hb.mono h1.size)).cell (p:=⟨b,o,none⟩) R) k n hk) t 0 [] v W j (by simp;omega) h);have HR:=hid Q;have HC:=hid y;have Y:=hid (A2c t);have af:Hid (∀(g c:Nat),RdS w (.slice (some ⟨g,0,none⟩) (Q7 t).length c) (Q7 t)->True):=hid (λ_ _ _=>trivial);clear Q y m j D r;go_enter func129,ntmps129;go_wp2_with fail;refine(A0U l _ _ HR.out).mono ?_;rintro e q⟨rfl,G⟩;rw[HC.out,j5]
 have s:P7 q b off l.length cap q.heap.size 0 [] (.slice none 0 0) (q.alloc (.cells #[.slice (some ⟨b,off,none⟩) l.length cap,.int .i64 0,.slice none 0 0] 259)) :=
  ⟨J0.new q _ _,World.ownsRow_nil _ _ _ _,ba_,lr_ _⟩
 have J:=hid s;have N:=hid G;clear s G;go_wp2_with fail;refine(aa.out q N.out _ _ _ J.out).mono ?_;rintro e w2⟨rfl,v2,d,_⟩;obtain⟨L,B⟩:∃X,X=[]++F7 t ([]:List St).length:=⟨_,rfl⟩
 have H:Hid (L=F7 t 0):=hid (by rw[B];rfl);rw[←B] at d;clear B;have V:L.length<=1000:=by rw[H.out,Z1];omega
 have C:=hid d;clear d;go_wp2_with fail;refine(Y8 _ _ _ _ _ _ _ L v2 5 0 0 0 0 0 0 _ V C.out).mono ?_;rintro e w3⟨rfl,v3,a,_⟩;obtain⟨P,T⟩:∃X,X=L++[(⟨5,(0,0,0,0),0,0⟩:St)]:=⟨_,rfl⟩
 have Z:Hid (P=Q7 t):=hid (by rw[T,H.out];rfl);rw[←T] at a;clear T;obtain⟨g,c,rfl⟩:=a.form (by rw[Z.out,Y.out];omega);have m2:=a.mb.cell 2;simp only[List.getElem?_toArray,List.getElem?_cons_succ,List.getElem?_cons_zero] at m2;have f:=hid a;clear a;go_wp2_with fail;go_ret2;refine⟨g,c,?_,?_,Nat.le_trans N.out.size (Nat.le_of_lt f.out.step.1),N.out.trans (f.out.bel.mono N.out.size)⟩
 .rw[←Z.out];rfl
 .rw[←Z.out];exact Rd.of_own f.out.own
