import Derived.Test.YthhcpbfgoofppaaGreatDoorHPk
import Derived.Test.YthhcpbfgoofppaaGreatDoorHSpot
import Derived.LaidEqlPtr
import Derived.Lib.Builder
set_option linter.unusedVariables false
set_option linter.unusedSimpArgs false
open Wf
set_option maxRecDepth 100000
set_option maxHeartbeats 4000000
open Go.Lib (hid)
open Go.Proofs.Tryz hiding parts
namespace Wf
structure Kn where
 b:Nat
 m:Nat
 u:List U_
deriving DecidableEq
def upd{β:Type}(f:Kn->β)(k:Kn)(v:β):Kn->β:=λx=>if x=k then v else f x
theorem F5{β:Type}(f:Kn->β)(k:Kn)(v:β):upd f k v k=v:=if_pos rfl
theorem V3{β:Type}(f:Kn->β){k x:Kn}(v:β)(h:x≠k):upd f k v x=f x:=if_neg h
end Wf
namespace Go.Proofs.YthhcpbfgoofppaaGreatDoor
open Go.RowKit Wf
def J7(b:Nat):V_:=.pointer (some ⟨b,0,none⟩)
def k5(c:Nat):V_:=.int .u8 c
structure Net (w0:W_) (Nb:Nat) (wv:V_) (root:Kn) (Ks:List Kn) (bk ev:Kn->Value) (ch:Kn->List (Nat×Value)) (w:W_):Prop where
 net:J0 w Nb 222 #[J7 root.b,wv]
 onb:w0.heap.size<=Nb
 rt:root∈Ks
 ru:root.u=[]
 blk:∀k∈Ks,J0 w k.b 220 #[.map (some k.m),bk k,ev k]
 mp:∀k∈Ks,Mp w k.m k5 (ch k)
 ob:∀k∈Ks,w0.heap.size<=k.b
 om:∀k∈Ks,w0.heap.size<=k.m
 ib:∀s∈Ks,∀t∈Ks,s.b=t.b->s=t
 im:∀s∈Ks,∀t∈Ks,s.m=t.m->s=t
 iu:∀s∈Ks,∀t∈Ks,s.u=t.u->s=t
 kids:∀k∈Ks,∀c v,A6 (ch k) c=some v->∃t∈Ks,v=J7 t.b/\c<256/\t.u=k.u++[UInt8.ofNat c]
 all:∀k∈Ks,∀t∈Ks,∀c,c<256->t.u=k.u++[UInt8.ofNat c]->A6 (ch k) c=some (J7 t.b)
 par:∀t∈Ks,t.u≠[]->∃s∈Ks,∃c,c<256/\t.u=s.u++[UInt8.ofNat c]
 keep:Below w0.heap.size w0 w
variable {w0 w w':W_} {Nb:Nat} {wv:V_} {root k:Kn} {Ks:List Kn} {bk ev:Kn->Value} {ch:Kn->List (Nat×Value)} {row:Option Nat}
theorem m5{g:Nat}{t:TypeId}{cs:Array V_}(h:J0 w g t cs)(b:w.grownBy w' row)(a:some g≠row):J0 w' g t cs:=(b.block g h.lt a).trans h
theorem A00{g:Nat}{t:TypeId}{cs:Array V_}{l:List (Nat×Value)}(h:J0 w g t cs)(c:Mp w g k5 l):False:=by
 obtain⟨d,a,b,_⟩:=c;unfold J0 at h;rw[h] at b;cases b
theorem A9O{g:Nat}{t c:TypeId}{cs b:Array V_}(h:J0 w g t cs)(a:J0 w g c b):t=c:=by
 unfold J0 at h a;rw[h] at a;cases a
 rfl
theorem A8k:222≠220:=by decide
theorem Net.grown(h:Net w0 Nb wv root Ks bk ev ch w)(c:w.grownBy w' row)(i:∀g,row=some g->w0.heap.size<=g)(j:some Nb≠row)(f:∀k∈Ks,some k.b≠row/\some k.m≠row):Net w0 Nb wv root Ks bk ev ch w' :=
 ⟨m5 h.net c j,h.onb,h.rt,h.ru,λk a=>m5 (h.blk k a) c (f k a).1,λk a=>(h.mp k a).kept c (f k a).2,h.ob,h.om,h.ib,h.im,h.iu,h.kids,h.all,h.par,h.keep.grown c h.keep.size (λg d=>i g d)⟩
theorem Net.below(h:Net w0 Nb wv root Ks bk ev ch w)(a:Below w.heap.size w w'):Net w0 Nb wv root Ks bk ev ch w' :=
 h.grown (row:=none) ⟨a.os,a.tape,a.output,a.size,λi b _=>a.block i b⟩ (λ_ e=>by cases e) (by simp) (λ_ _=>by simp)
theorem j6(w:W_)(x:Addr)(u:V_):w.grownBy (w.setCell x u) (some x.block) :=
 ⟨rfl,rfl,rfl,by simp,λi _ a=>Below.heap_setCell w x u i (λe=>a (by rw[e]))⟩
theorem Net.setBack(h:Net w0 Nb wv root Ks bk ev ch w)(c:k∈Ks)(v:V_):Net w0 Nb wv root Ks (upd bk k v) ev ch (w.setCell ⟨k.b,1,none⟩ v):=by
 have d:=j6 w ⟨k.b,1,none⟩ v;have i:∀s∈Ks,some s.m≠some k.b:=λs a e=>A00 (h.blk k c) (by have:=h.mp s a;rw[Option.some.inj e] at this;exact this)
 refine⟨m5 h.net d (λe=>?_),h.onb,h.rt,h.ru,λs a=>?_,λs a=>(h.mp s a).kept d (i s a),h.ob,h.om,h.ib,h.im,h.iu,h.kids,h.all,h.par,h.keep.grown d h.keep.size (λg e=>by cases e;exact h.ob k c)⟩
 .have f:=h.net
  rw[Option.some.inj e] at f;exact A8k (A9O f (h.blk k c))
 .by_cases e:s=k
  .subst e
   rw[F5];exact(h.blk s a).set_ 1 v
  .rw[V3 _ _ e]
   exact(h.blk s a).far (λj=>e (h.ib s a k c j)) v
theorem Net.setEnds(h:Net w0 Nb wv root Ks bk ev ch w)(c:k∈Ks)(v:V_):Net w0 Nb wv root Ks bk (upd ev k v) ch (w.setCell ⟨k.b,2,none⟩ v):=by
 have d:=j6 w ⟨k.b,2,none⟩ v;have i:∀s∈Ks,some s.m≠some k.b:=λs a e=>A00 (h.blk k c) (by have:=h.mp s a;rw[Option.some.inj e] at this;exact this)
 refine⟨m5 h.net d (λe=>?_),h.onb,h.rt,h.ru,λs a=>?_,λs a=>(h.mp s a).kept d (i s a),h.ob,h.om,h.ib,h.im,h.iu,h.kids,h.all,h.par,h.keep.grown d h.keep.size (λg e=>by cases e;exact h.ob k c)⟩
 .have f:=h.net
  rw[Option.some.inj e] at f;exact A8k (A9O f (h.blk k c))
 .by_cases e:s=k
  .subst e
   rw[F5];exact(h.blk s a).set_ 2 v
  .rw[V3 _ _ e]
   exact(h.blk s a).far (λj=>e (h.ib s a k c j)) v
theorem A9K{a b:Nat}(d:a<256)(c:b<256)(h:UInt8.ofNat a=UInt8.ofNat b):a=b:=by
 have:=congrArg UInt8.toNat h;simp at this;omega
theorem A3N{a b:List U_}{x y:U_}(h:a++[x]=b++[y]):a=b/\x=y:=by
 have:=List.append_inj' h rfl
 simpa using this
theorem Net.insert(h:Net w0 Nb wv root Ks bk ev ch w)(l:k∈Ks){c:Nat}(D:c<256)(T:A6 (ch k) c=none){y w':W_}
 (hw1:y=(w.alloc (.map #[] 0)).alloc (.cells #[.map (some w.heap.size),.pointer none,.slice none 0 0] 220)) {t:Kn} (ht:t=⟨w.heap.size+1,w.heap.size,k.u++[UInt8.ofNat c]⟩)
 (hmp:Mp w' k.m k5 (j8 (ch k) c (J7 t.b))) (hg:y.grownBy w' (some k.m)):
 Net w0 Nb wv root (t::Ks) (upd bk t (.pointer none)) (upd ev t (.slice none 0 0)) (upd (upd ch t []) k (j8 (ch k) c (J7 t.b))) w'/\t∉Ks:=by
 have hlt:∀s∈Ks,s.b<w.heap.size/\s.m<w.heap.size:=λs d=>⟨(h.blk s d).lt,(h.mp s d).lt⟩
 have A:t∉Ks:=λV=>by have h':=(hlt t V).1;rw[ht] at h';exact absurd h' (by show ¬(w.heap.size+1<w.heap.size);omega)
 have i:∀s∈Ks,s≠t:=λs d e=>A (e ▸ d)
 have M:Below w.heap.size w y:=by rw[hw1];exact ba_.alloc (by simp) _
 have j:=h.below M;have S:y.heap.size=w.heap.size+2:=by rw[hw1];simp
 have H:Mp y w.heap.size k5 []:=by rw[hw1];exact(Mp.new w k5).below ba_
 have L:J0 y (w.heap.size+1) 220 #[.map (some w.heap.size),.pointer none,.slice none 0 0]:=by
  rw[hw1];have:=J0.new (w.alloc (.map #[] 0)) 220 #[.map (some w.heap.size),.pointer none,.slice none 0 0]
  simpa using this
 have J:∀s∈Ks,some s.b≠some k.m:=λs d e=>A00 (h.blk s d) (by have:=h.mp k l;rw[←Option.some.inj e] at this;exact this)
 have o:∀s∈Ks,s.u≠k.u++[UInt8.ofNat c]:=λs d e=>by
  have:=h.all k l s d c D e;rw[T] at this;cases this
 have B:k≠t:=i k l;refine⟨⟨m5 j.net hg (λe=>A00 j.net (by have:=j.mp k l;rw[←Option.some.inj e] at this;exact this)),h.onb,List.mem_cons_of_mem _ h.rt,h.ru,?_,?_,?_,?_,?_,?_,?_,?_,?_,?_,?_⟩,A⟩
 .intro s d
  rcases List.mem_cons.1 d with e|d
  .subst e
   rw[F5,F5,ht];exact m5 L hg (λe=>by have j:=(hlt k l).2;have C:w.heap.size+1=k.m:=Option.some.inj e;omega)
  .rw[V3 _ _ (i s d),V3 _ _ (i s d)]
   exact m5 (j.blk s d) hg (J s d)
 .intro s d
  rcases List.mem_cons.1 d with e|d
  .rw[e,V3 _ _ B.symm,F5,ht]
   exact H.kept hg (λe=>by have j:=(hlt k l).2;have C:w.heap.size=k.m:=Option.some.inj e;omega)
  .by_cases e:s=k
   .rw[e,F5];exact hmp
   .rw[V3 _ _ e,V3 _ _ (i s d)]
    exact(j.mp s d).kept hg (λz=>e (h.im s d k l (Option.some.inj z)))
 .intro s d
  rcases List.mem_cons.1 d with e|d
  .rw[e,ht];exact Nat.le_succ_of_le h.keep.size
  .exact h.ob s d
 .intro s d
  rcases List.mem_cons.1 d with e|d
  .rw[e,ht];exact h.keep.size
  .exact h.om s d
 .intro s d r f e
  rcases List.mem_cons.1 d with es|d <;> rcases List.mem_cons.1 f with er|f
  .rw[es,er]
  .rw[es,ht] at e;have:=(hlt r f).1;replace e:w.heap.size+1=r.b:=e;omega
  .rw[er,ht] at e;have:=(hlt s d).1;replace e:s.b=w.heap.size+1:=e;omega
  .exact h.ib s d r f e
 .intro s d r f e
  rcases List.mem_cons.1 d with es|d <;> rcases List.mem_cons.1 f with er|f
  .rw[es,er]
  .rw[es,ht] at e;have:=(hlt r f).2;replace e:w.heap.size=r.m:=e;omega
  .rw[er,ht] at e;have:=(hlt s d).2;replace e:s.m=w.heap.size:=e;omega
  .exact h.im s d r f e
 .intro s d r f e
  rcases List.mem_cons.1 d with es|d <;> rcases List.mem_cons.1 f with er|f
  .rw[es,er]
  .rw[es,ht] at e;exact absurd e.symm (o r f)
  .rw[er,ht] at e;exact absurd e (o s d)
  .exact h.iu s d r f e
 .intro s d a v p
  rcases List.mem_cons.1 d with es|d
  .rw[es,V3 _ _ B.symm,F5] at p
   cases p
  .by_cases e:s=k
   .rw[e,F5,A0D] at p
    split at p
    .rename_i R
     cases p;exact⟨t,List.mem_cons_self ..,rfl,by rw[R];exact D,by rw[e,R,ht]⟩
    .obtain⟨r,f,j,C,P⟩:=h.kids k l a v p
     exact⟨r,List.mem_cons_of_mem _ f,j,C,by rw[e];exact P⟩
   .rw[V3 _ _ e,V3 _ _ (i s d)] at p
    obtain⟨r,f,j,C,P⟩:=h.kids s d a v p;exact⟨r,List.mem_cons_of_mem _ f,j,C,P⟩
 .intro s d r f a O e
  rcases List.mem_cons.1 d with es|d <;> rcases List.mem_cons.1 f with er|f
  .exfalso
   rw[er,es] at e;have:=congrArg List.length e;simp at this
  .exfalso
   rw[es,ht] at e;obtain⟨q,G,x,Q,n⟩:=h.par r f (by rw[e];simp);rw[e] at n;exact o q G (A3N n).1.symm
  .rw[er,ht] at e
   obtain⟨Y,X⟩:=A3N e;have E:=h.iu s d k l Y.symm;have N:=A9K D O X;rw[E,F5,A0D,if_pos N.symm,er]
  .by_cases z:s=k
   .rw[z,F5,A0D,if_neg]
    .exact h.all k l r f a O (by rw[←z];exact e)
    .rintro rfl
     exact o r f (by rw[e,z])
   .rw[V3 _ _ z,V3 _ _ (i s d)]
    exact h.all s d r f a O e
 .intro s d F
  rcases List.mem_cons.1 d with es|d
  .exact⟨k,List.mem_cons_of_mem _ l,c,D,by rw[es,ht]⟩
  .obtain⟨q,G,x,Q,n⟩:=h.par s d F
   exact⟨q,List.mem_cons_of_mem _ G,x,Q,n⟩
 .exact j.keep.grown hg j.keep.size (λg e=>by cases e;exact h.om k l)
end Go.Proofs.YthhcpbfgoofppaaGreatDoor
namespace Go.Proofs.YthhcpbfgoofppaaGreatDoor
open Go.RowKit Wf
theorem m9:A6N prog 5 k5:=A9J underlying5
theorem A6O(w:W_):(zeroValue 217).run prog w=.ok (.pointer none) w:=by kernel_rfl
theorem A6m:∃j,prog.info? 220=some j/\j.size≠0:=by
 have h:(prog.info? 220).map (λi=>i.size)=some 3:=by kernel_rfl
 cases hi:prog.info? 220 with
 | none=>rw[hi] at h;cases h
 | some j =>
   rw[hi] at h;have h':j.size=3:=Option.some.inj h;exact⟨j,rfl,by omega⟩
theorem A6l(a:Addr)(w:W_):(binOp .neq 217 (.pointer (some a)) (.pointer (some a))).run prog w=.ok (.bool false) w:=by
 obtain⟨j,b,_⟩:=A6m;exact Lib.run_neq_ptr_same w a underlying217 b
theorem A5R{a b:Addr}{p o:Array V_}{i g:TypeId}(w:W_)(f:a≠b)(n:w.heap[a.block]?=some (.cells p i (0,0)))(m:w.heap[b.block]?=some (.cells o g (0,0))):
 (binOp .neq 217 (.pointer (some a)) (.pointer (some b))).run prog w=.ok (.bool true) w:=by
 obtain⟨j,l,c⟩:=A6m
 have h:∀d:Nat,(Op.equalIn (d+1) 217 (.pointer (some a)) (.pointer (some b))).run prog w=.ok false w:=λd=>by
  simp[Op.equalIn,run_underlying underlying217,sizeOf,typeInfo,l,c,run_sameAddr_other w f n m]
 simp only[binOp];simp[Op.equal,Op.maxDepth,h 9999]
structure Tie (ws:List (List U_)) (Ks:List Kn) (bk:Kn->Value) (Td:Kn->Prop):Prop where
 knots:∀u,A2Q ws u↔∃k∈Ks,k.u=u
 back:∀s∈Ks,Td s->∃t∈Ks,Td t/\bk s=J7 t.b/\Bk ws s.u t.u
def B6B(ws:List (List U_))(Ks:List Kn)(k:Kn)(t:List U_)(c:Nat)(w:W_)(e:Ending)(w':W_):Prop :=
 ∃r:Kn,e=.returned (J7 r.b)/\r∈Ks/\Q6 ws (t++[UInt8.ofNat c]) r.u/\r.u.length<=k.u.length+1/\w=w'
variable {w0 w:W_} {Nb:Nat} {wv:V_} {root k:Kn} {Ks:List Kn} {bk ev:Kn->Value} {ch:Kn->List (Nat×Value)} {ws:List (List U_)} {Td:Kn->Prop}
theorem B4Q(h:Net w0 Nb wv root Ks bk ev ch w)(N:Tie ws Ks bk Td)(P:k∈Ks)(Q:Td k)(t:List U_)(O:Q6 ws t k.u)(c:Nat)(V:c<256):
 Calls prog 126 #[.pointer (some ⟨Nb,0,none⟩),.pointer (some ⟨k.b,0,none⟩),.int .u8 c] w (B6B ws Ks k t c w):=by
 have Y:=hid h;have L:=hid N;have S:w.cell? ⟨Nb,0,none⟩=some (.pointer (some ⟨root.b,0,none⟩)):=h.net.cell 0;have p:Hid (k∈Ks/\Td k/\A0n (ws:=ws) t (UInt8.ofNat c) k.u):=hid ⟨P,Q,O.step _⟩;clear h N P Q O;unfold B6B;go_enter func126,ntmps126;go_wp2
 go_loopg [1] (k.u.length+1) (λgk v1 wr=>∃s:Kn,v1=.pointer (some ⟨s.b,0,none⟩)/\s.u.length<=k.u.length/\Hid (s∈Ks/\Td s/\A0n (ws:=ws) t (UInt8.ofNat c) s.u)/\Hid (w=wr)/\Hid (s.u.length<gk))
 case atStart=>exact⟨k,rfl,lr_ _,p,hid rfl,hid (Nat.lt_succ_self _)⟩
 case round =>
  obtain⟨s,rfl,z,X,E,R⟩:=hrel;obtain⟨f,o,g⟩:=X.out;have d:Net w0 Nb wv root Ks bk ev ch wr:=by rw[←E.out];exact Y.out
  have S:wr.cell? ⟨Nb,0,none⟩=some (.pointer (some ⟨root.b,0,none⟩)):=d.net.cell 0;have x0:wr.cell? ⟨s.b,0,none⟩=some (.map (some s.m)):=(d.blk s f).cell 0;have l:=d.mp s f;cases hg:A6 (ch s) c with
  | some v =>
    have n:=l.look_some m9 underlying218 hg false;obtain⟨r,y,rfl,_,i⟩:=d.kids s f c v hg;have q:Hid (r∈Ks/\Q6 ws (t++[UInt8.ofNat c]) r.u/\r.u.length<=k.u.length+1):=hid ⟨y,by rw[i];exact g.done ((L.out.knots _).2 ⟨r,y,i⟩),by rw[i];simp;omega⟩;unfold J7 k5 at n;simp only[Bool.false_eq_true,if_false] at n;clear hg y i l d f o g z;go_wp2;go_ret;exact⟨r,rfl,q.out.1,q.out.2.1,q.out.2.2,E.out⟩
  | none =>
    have n:=l.look_none m9 underlying218 (A6O wr) hg false
    have j:¬A2Q ws (s.u++[UInt8.ofNat c]):=λH=>by
     obtain⟨r,y,i⟩:=(L.out.knots _).1 H;have:=d.all s f r y c V i;rw[hg] at this;cases this
    unfold k5 at n;simp only[Bool.false_eq_true,if_false] at n;by_cases hrt:s=root
    .subst hrt
     have q:Hid (s∈Ks/\Q6 ws (t++[UInt8.ofNat c]) s.u/\s.u.length<=k.u.length+1):=hid ⟨f,by
      rw[d.ru] at g j ⊢;exact g.none j,by omega⟩
     have G:=A6l ⟨s.b,0,none⟩ wr;clear hg l d f o g z j;go_wp2;go_ret;exact⟨s,rfl,q.out.1,q.out.2.1,q.out.2.2,E.out⟩
    .have C:s.b≠root.b:=λe=>hrt (d.ib s f root d.rt e)
     obtain⟨r,y,B,D,J⟩:=L.out.back s f o
     have Z:wr.cell? ⟨s.b,1,none⟩=some (.pointer (some ⟨r.b,0,none⟩)):=by
      have:=(d.blk s f).cell 1;rw[D] at this;exact this
     have A:s.u≠[]:=λe=>hrt (d.iu s f root d.rt (e.trans d.ru.symm))
     have hlt:=J.lt A;have q:Hid (r∈Ks/\Td r/\A0n (ws:=ws) t (UInt8.ofNat c) r.u):=hid ⟨y,B,g.back j J⟩;have F:r.u.length<=k.u.length:=by omega
     have M:Hid (r.u.length<gk - 1):=hid (by have:=R.out;omega);have T:0<gk:=by have:=R.out;omega
     have G:=A5R (a:=⟨s.b,0,none⟩) (b:=⟨root.b,0,none⟩) wr (λe=>C (congrArg Addr.block e)) (d.blk s f) (d.blk root d.rt);clear hg l d f o g z j hrt A hlt y B D J;go_wp2
     go_roundg (gk - 1)
     case rel=>exact⟨r,rfl,F,q,E,M⟩
     all_goals omega
end Go.Proofs.YthhcpbfgoofppaaGreatDoor
namespace Wf
structure A3E (Ks D Q:List Kn) (X:List U_->Prop):Prop where
 dk:∀k∈D,k∈Ks
 qk:∀k∈Q,k∈Ks
 nd:(D++Q).Nodup
 td:∀t∈Ks,(t∈D\/t∈Q)↔(t.u=[]\/(∃s∈D,∃c,t.u=s.u++[c])\/X t.u)
 up:Q.Pairwise λa b=>a.u.length<=b.u.length
 near:∀d∈D,∀k∈Q,d.u.length<=k.u.length
 top:∀k,Q.head? = some k->∀t∈Q,t.u.length<=k.u.length+1
theorem A3E.start{Ks:List Kn}{root:Kn}(c:root∈Ks)(b:root.u=[])(f:∀s∈Ks,∀t∈Ks,s.u=t.u->s=t):A3E Ks [] [root] (λ_=>False):=by
 refine⟨by simp,by simpa using c,by simp,λt a=>?_,by simp,by simp,?_⟩
 .simp
  exact⟨λe=>by rw[e];exact b,λe=>f t a root c (e.trans b.symm)⟩
 .intro k d t a
  simp at d a;rw[a,d];omega
theorem A3E.all{Ks D Q:List Kn}{X:List U_->Prop}{k:Kn}(h:A3E Ks D (k::Q) X)(b:∀t∈Ks,t.u≠[]->∃s∈Ks,∃c,t.u=s.u++[c]):∀t∈Ks,t.u.length<=k.u.length->t∈D\/t∈k::Q:=by
 have key:∀n,∀t∈Ks,t.u.length=n->t.u.length<=k.u.length->t∈D\/t∈k::Q:=by
  intro n
  induction n using Nat.strongRecOn with
  | _ n ih =>
    intro t a j f;refine(h.td t a).2 ?_;by_cases hu:t.u=[]
    .exact .inl hu
    .obtain⟨s,i,c,g⟩:=b t a hu
     have d:t.u.length=s.u.length+1:=by rw[g];simp
     refine .inr (.inl ⟨s,?_,c,g⟩);rcases ih s.u.length (by omega) s i rfl (by omega) with hd|hq
     .exact hd
     .exfalso
      rcases List.mem_cons.1 hq with rfl|hq
      .omega
      .have:=(List.pairwise_cons.1 h.up).1 s hq
       omega
 exact λt a f=>key _ t a rfl f
theorem A3E.more{Ks D Q:List Kn}{X:List U_->Prop}{k m:Kn}{c:U_}(h:A3E Ks D (k::Q) X)(p:m∈Ks)(g:m.u=k.u++[c])(y:¬(m∈D\/m∈k::Q))(q:∀s∈Ks,∀t∈Ks,s.u=t.u->s=t):
 A3E Ks D (k::(Q++[m])) (λu=>X u\/u=k.u++[c]):=by
 have i:m.u.length=k.u.length+1:=by rw[g];simp
 have e:D++k::(Q++[m])=(D++k::Q)++[m]:=by simp
 refine⟨h.dk,λt f=>?_,?_,λt f=>?_,?_,λd j t f=>?_,λr o t f=>?_⟩
 .rcases List.mem_cons.1 f with rfl|f
  .exact h.qk _ (List.mem_cons_self ..)
  .rcases List.mem_append.1 f with f|f
   .exact h.qk _ (List.mem_cons_of_mem _ f)
   .rw[List.mem_singleton.1 f];exact p
 .rw[e,List.nodup_append]
  refine⟨h.nd,by simp,λa n b l=>?_⟩;rw[List.mem_singleton.1 l];rintro rfl;exact y (List.mem_append.1 n)
 .have A:(t∈D\/t∈k::(Q++[m]))↔(t∈D\/t∈k::Q)\/t=m:=by
   simp only[List.mem_cons,List.mem_append,List.not_mem_nil,or_false];constructor
   .rintro (h|h|h|h)
    .exact .inl (.inl h)
    .exact .inl (.inr (.inl h))
    .exact .inl (.inr (.inr h))
    .exact .inr h
   .rintro ((h|h|h)|h)
    .exact .inl h
    .exact .inr (.inl h)
    .exact .inr (.inr (.inl h))
    .exact .inr (.inr (.inr h))
  have z:t=m↔t.u=k.u++[c]:=⟨λe=>by rw[e];exact g,λe=>q t f m p (e.trans g.symm)⟩
  rw[A,h.td t f,z];constructor
  .rintro ((h|h|h)|h)
   .exact .inl h
   .exact .inr (.inl h)
   .exact .inr (.inr (.inl h))
   .exact .inr (.inr (.inr h))
  .rintro (h|h|h|h)
   .exact .inl (.inl h)
   .exact .inl (.inr (.inl h))
   .exact .inl (.inr (.inr h))
   .exact .inr h
 .rw[←List.cons_append,List.pairwise_append]
  refine⟨h.up,by simp,λa n b l=>?_⟩;rw[List.mem_singleton.1 l,i];exact h.top k rfl a n
 .rcases List.mem_cons.1 f with rfl|f
  .exact h.near d j _ (List.mem_cons_self ..)
  .rcases List.mem_append.1 f with f|f
   .exact h.near d j t (List.mem_cons_of_mem _ f)
   .rw[List.mem_singleton.1 f,i]
    have:=h.near d j k (List.mem_cons_self ..);omega
 .simp at o
  subst o;rcases List.mem_cons.1 f with rfl|f
  .omega
  .rcases List.mem_append.1 f with f|f
   .exact h.top k rfl t (List.mem_cons_of_mem _ f)
   .rw[List.mem_singleton.1 f,i]
    exact lr_ _
theorem A3E.gone{Ks D Q:List Kn}{X:List U_->Prop}{k:Kn}(h:A3E Ks D (k::Q) X)(l:∀t∈Ks,X t.u↔∃c,t.u=k.u++[c]):A3E Ks (k::D) Q (λ_=>False):=by
 refine⟨λt a=>?_,λt a=>h.qk t (List.mem_cons_of_mem _ a),?_,λt a=>?_,(List.pairwise_cons.1 h.up).2,λd g t a=>?_,λr j t a=>?_⟩
 .rcases List.mem_cons.1 a with rfl|a
  .exact h.qk _ (List.mem_cons_self ..)
  .exact h.dk t a
 .have:=h.nd
  exact(List.perm_middle.nodup_iff).1 this
 .have i:(t∈k::D\/t∈Q)↔(t∈D\/t∈k::Q):=by
   simp only[List.mem_cons];constructor
   .rintro ((h|h)|h)
    .exact .inr (.inl h)
    .exact .inl h
    .exact .inr (.inr h)
   .rintro (h|h|h)
    .exact .inl (.inr h)
    .exact .inl (.inl h)
    .exact .inr h
  rw[i,h.td t a,l t a];constructor
  .rintro (h|⟨s,b,h⟩|h)
   .exact .inl h
   .exact .inr (.inl ⟨s,List.mem_cons_of_mem _ b,h⟩)
   .exact .inr (.inl ⟨k,List.mem_cons_self ..,h⟩)
  .rintro (h|⟨s,b,q⟩|h)
   .exact .inl h
   .rcases List.mem_cons.1 b with rfl|b
    .exact .inr (.inr q)
    .exact .inr (.inl ⟨s,b,q⟩)
   .cases h
 .rcases List.mem_cons.1 g with rfl|g
  .exact(List.pairwise_cons.1 h.up).1 t a
  .exact h.near d g t (List.mem_cons_of_mem _ a)
 .have f:r∈Q:=List.mem_of_mem_head? j
  have i:=h.top k rfl t (List.mem_cons_of_mem _ a);have m:=(List.pairwise_cons.1 h.up).1 r f;omega
theorem A3E.done{Ks D:List Kn}(h:A3E Ks D [] (λ_=>False))(b:∀t∈Ks,t.u≠[]->∃s∈Ks,∃c,t.u=s.u++[c]):∀t∈Ks,t∈D:=by
 have key:∀n,∀t∈Ks,t.u.length=n->t∈D:=by
  intro n
  induction n using Nat.strongRecOn with
  | _ n ih =>
    intro t a i
    have:t∈D\/t∈[]:=by
     refine(h.td t a).2 ?_;by_cases hu:t.u=[]
     .exact .inl hu
     .obtain⟨s,g,c,f⟩:=b t a hu
      have d:t.u.length=s.u.length+1:=by rw[f];simp
      exact .inr (.inl ⟨s,ih s.u.length (by omega) s g rfl,c,f⟩)
    rcases this with h|h
    .exact h
    .cases h
 exact λt a=>key _ t a rfl
theorem B2H{Ks D:List Kn}{k:Kn}(b:k∈Ks)(a:k∉D):(Ks.filter λt=>decide (t∉k::D)).length<(Ks.filter λt=>decide (t∉D)).length:=by
 have e:(Ks.filter λt=>decide (t∉k::D))=(Ks.filter λt=>decide (t∉D)).filter λt=>decide (t≠k):=by
  rw[List.filter_filter]
  congr 1
  funext t
  by_cases h1:t=k <;> by_cases h2:t∈D <;> simp[h1,h2]
 rw[e,List.length_filter_lt_length_iff_exists];exact⟨k,by simp[b,a],by simp⟩
