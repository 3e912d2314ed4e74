import Derived.Test.YthhcpbfgoofppaaGreatDoorGSynE
import Derived.Defers
import Derived.Recover
import Derived.Laws.Pointers
set_option linter.unusedVariables false
set_option linter.unusedSimpArgs false
open Wf
set_option maxRecDepth 100000
set_option maxHeartbeats 4000000
open Go.Lib (hid)
open Go.Proofs.Tryz hiding parts
namespace Go.Proofs.YthhcpbfgoofppaaGreatDoor
open Go.RowKit Wf
theorem B8c(W:W_):(Instr.typeAssert .nilIface 20 188 true).run prog W=.ok (.tuple #[.agg #[.int .i64 0],.bool false]) W:=by kernel_rfl
theorem B6p(k:Int)(W:W_):(Instr.typeAssert (.iface 188 (.agg #[.int .i64 k])) 20 188 true).run prog W=.ok (.tuple #[.agg #[.int .i64 k],.bool true]) W:=by kernel_rfl
theorem B0t(p q r:Addr)(w:W_):
 CallsD prog 111 #[.pointer (some p),.pointer (some q),.pointer (some r)] .returning w λe c w'=>e=.returned (.tuple #[])/\c=.returning/\Below w.heap.size w w':=by
 refine callsD_of_wpS func111 rfl λa cs d=>?_
 rw[show(#[.pointer (some p),.pointer (some q),.pointer (some r)]:Array V_)++Array.replicate (Tryz.f111.ntmps - (#[.pointer (some p),.pointer (some q),.pointer (some r)]:Array V_).size) undef=#[.pointer (some p),.pointer (some q),.pointer (some r),undef,undef,undef,undef,undef,undef,undef,undef,undef,undef,undef] by rw[ntmps111];rfl];apply wpS_seq;apply wpS_region;have b:=B8c;simp[wpOpsS,go_sem,recoverD,d,Exit.thenS,b];refine wpS_of_wp ?_;go_wp2;cases a
 simp_all[bodyPostS,results,results111]
 exact ba_
theorem A5i(P k:Nat)(v2 v3 v4:V_)(w:W_)(f:J0 w P 73 #[v2])(d:J0 w (P+1) 3 #[v3])(b:J0 w (P+2) 36 #[v4]):
 CallsD prog 111 #[.pointer (some ⟨P,0,none⟩),.pointer (some ⟨P+1,0,none⟩),.pointer (some ⟨P+2,0,none⟩)] (.panicking [{ v:=A1A k,recovered:=false }]) w λe o w'=>e=.returned (.tuple #[])/\o=.panicking [{ v:=A1A k,recovered:=true }] /\
  J0 w' P 73 #[.slice none 0 0]/\J0 w' (P+1) 3 #[.int .i64 k]/\J0 w' (P+2) 36 #[.iface 81 (.int .i64 5)]/\Below P w w':=by
 have E:=b.lt;have i:=f.alloc (.cells #[.int .i64 k] 188);have h:=d.alloc (.cells #[.int .i64 k] 188);have g:=b.alloc (.cells #[.int .i64 k] 188);have n:=i.cell 0;have m:=h.cell 0;have l:=g.cell 0;have D:=i.frozen 0;have C:=h.frozen 0;have B:=g.frozen 0;simp only[List.getElem?_toArray,List.getElem?_cons_succ,List.getElem?_cons_zero] at n m l;have A:=hid f;have z:=hid d;have y:=hid b;clear f d b i h g;unfold A1A;refine callsD_of_wpS func111 rfl λj cs t=>?_
 rw[show(#[.pointer (some ⟨P,0,none⟩),.pointer (some ⟨P+1,0,none⟩),.pointer (some ⟨P+2,0,none⟩)]:Array V_)++Array.replicate (Tryz.f111.ntmps - (#[.pointer (some ⟨P,0,none⟩),.pointer (some ⟨P+1,0,none⟩),.pointer (some ⟨P+2,0,none⟩)]:Array V_).size) undef=#[.pointer (some ⟨P,0,none⟩),.pointer (some ⟨P+1,0,none⟩),.pointer (some ⟨P+2,0,none⟩),undef,undef,undef,undef,undef,undef,undef,undef,undef,undef,undef] by rw[ntmps111];rfl];apply wpS_seq;apply wpS_region;have a:=B6p;simp[wpOpsS,go_sem,recoverD,t,Exit.thenS,a];refine wpS_of_wp ?_;clear a;go_wp2_with fail;go_region;go_wp2;have s:=(((A.out.alloc (.cells #[.int .i64 k] 188)).set_ 0 (.slice none 0 0)).far (p:=⟨P+1,0,none⟩) (show P≠P+1 by omega) (.int .i64 k)).far (p:=⟨P+2,0,none⟩) (show P≠P+2 by omega) (.iface 81 (.int .i64 5));have r:=(((z.out.alloc (.cells #[.int .i64 k] 188)).far (p:=⟨P,0,none⟩) (show P+1≠P by omega) (.slice none 0 0)).set_ 0 (.int .i64 k)).far (p:=⟨P+2,0,none⟩) (show P+1≠P+2 by omega) (.iface 81 (.int .i64 5));have q:=(((y.out.alloc (.cells #[.int .i64 k] 188)).far (p:=⟨P,0,none⟩) (show P+2≠P by omega) (.slice none 0 0)).far (p:=⟨P+1,0,none⟩) (show P+2≠P+1 by omega) (.int .i64 k)).set_ 0 (.iface 81 (.int .i64 5));have c:Below P w (((((w.alloc (.cells #[.int .i64 k] 188)).setCell ⟨P,0,none⟩ (.slice none 0 0)).setCell ⟨P+1,0,none⟩ (.int .i64 k)).setCell ⟨P+2,0,none⟩ (.iface 81 (.int .i64 5))).drew):=(((((Below.refl P w).alloc (by omega) _).setCell (lr_ _) _).setCell (by simp) _).setCell (by simp) _).drew;refine⟨rfl,.panicking [{ v:=.iface 188 (.agg #[.int .i64 k]),recovered:=true }],rfl,.tuple #[],?_,rfl,rfl,s,r,q,c⟩;simp[results,results111]
theorem J0.new_at(w:W_)(t:TypeId)(cs:Array V_)(g:Nat)(a:w.heap.size=g):J0 (w.alloc (.cells cs t)) g t cs:=by
 subst a;exact J0.new w t cs
theorem J0.past{w w':W_}{g pb:Nat}{t:TypeId}{cs:Array V_}(h:J0 w g t cs)(b:w.grownBy w' (some pb))(a:g≠pb):J0 w' g t cs:=(b.block g h.lt (λe=>a (Option.some.inj e))).trans h
theorem A4E{w i h g:W_}{pb:Nat}(a:Below w.heap.size w i)(c:i.grownBy h (some pb))(b:Below w.heap.size h g):w.grownBy g (some pb) :=
 ⟨b.os.trans (c.os.trans a.os),b.tape.trans (c.tape.trans a.tape),b.output.trans (c.output.trans a.output),Nat.le_trans a.size (Nat.le_trans c.size b.size),λq d f=>(b.block q d).trans ((c.block q (Nat.lt_of_lt_of_le d a.size) f).trans (a.block q d))⟩
theorem P6.set{w:W_}{base:Nat}{v:V_}{l:List Nd}(h:P6 w base v l)(q o:Nat)(u:V_)(a:q<base):P6 (w.setCell ⟨q,o,none⟩ u) base v l :=
 h.grown (pb:=q) ⟨rfl,rfl,rfl,by simp,λk _ b=>Below.heap_setCell w _ _ k (λe=>b (by rw[e]))⟩ a
theorem P6.drewN{w:W_}{base:Nat}{v:V_}{l:List Nd}(h:P6 w base v l)(n:Nat):P6 (w.drewN n) base v l:=h.below (M0 br_ n)
theorem J0.drewN{w:W_}{g:Nat}{t:TypeId}{cs:Array V_}(h:J0 w g t cs)(n:Nat):J0 (w.drewN n) g t cs:=h
def A0m(r:PR Rx)(s:B_)(pb:Nat)(w:W_)(e:Ending)(w':W_):Prop :=
 (∃t g cap,r=.ok t s.size/\e=.returned (.tuple #[.slice (some ⟨g,0,none⟩) (A0 t).length cap,.int .i64 0,.nilIface])/\P6 w' w.heap.size (.slice (some ⟨g,0,none⟩) (A0 t).length cap) (A0 t)/\w.grownBy w' (some pb)) \/
 (∃k:Nat,(r=.bad k\/∃t,r=.ok t k/\k≠s.size)/\e=.returned (.tuple #[.slice none 0 0,.int .i64 k,.iface 81 (.int .i64 5)])/\w.grownBy w' (some pb))
theorem B2G{ev:V_}{pb:Nat}{s:B_}(w:W_)(h:T9 ev pb s 0 w){k:Nat}(i:W9 s.data.toList 0=.bad k):
 Calls prog 75 #[.pointer (some ⟨pb,0,none⟩)] w (A0m (W9 s.data.toList 0) s pb w):=by
 have c:Hid (∀W,PW w pb s 0 W->Calls prog 112 #[.pointer (some ⟨pb,0,none⟩)] W (PS W pb k)):=hid λW B=>((B4Z (s.size+1) 0 W (by omega) (h.next B (by omega))).2).mono λe w' E=>E.bad i
 have b:=hid h.pw;have A:Hid (Below w.heap.size w (((w.alloc (.cells #[.slice none 0 0] 73)).alloc (.cells #[.int .i64 0] 3)).alloc (.cells #[.nilIface] 36))):=hid ((ba_.alloc (by simp) _).alloc (by simp;omega) _);have D:∀(o:Fn)(first cap:Array V_) (w:W_),(Instr.makeFunc o first cap).run prog w=.ok (.func o first cap) w:=λ_ _ _ _=>rfl
 unfold A0m;have F:=hid i;clear h i;unfold PS at c
 go_enter_defers func75,ntmps75
 go_wp2_with fail;refine(c.out _ (b.out.below A.out)).mono ?_;rintro e g⟨rfl,a⟩;have C:=b.out.lt;have z:J0 g w.heap.size 73 #[.slice none 0 0]:=J0.past (((J0.new w 73 #[.slice none 0 0]).alloc (.cells #[.int .i64 0] 3)).alloc (.cells #[.nilIface] 36)) a (by omega);have y:J0 g (w.heap.size+1) 3 #[.int .i64 0]:=J0.past ((J0.new_at (w.alloc (.cells #[.slice none 0 0] 73)) 3 #[.int .i64 0] (w.heap.size+1) (by simp)).alloc (.cells #[.nilIface] 36)) a (by omega);have t:J0 g (w.heap.size+2) 36 #[.nilIface]:=J0.past (J0.new_at ((w.alloc (.cells #[.slice none 0 0] 73)).alloc (.cells #[.int .i64 0] 3)) 36 #[.nilIface] (w.heap.size+2) (by simp)) a (by omega);have G:=hid a;refine leaves_cons (f:=111) (args:=#[.pointer (some ⟨w.heap.size,0,none⟩),.pointer (some ⟨w.heap.size+1,0,none⟩),.pointer (some ⟨w.heap.size+2,0,none⟩)]) (by simp) (by simp[go_sem]) ?_;refine(A5i w.heap.size k _ _ _ g z y t).mono ?_;rintro e J H⟨rfl,rfl,m,l,j,n⟩;have r:=m.cell 0;have q:=l.cell 0;have p:=j.cell 0;simp only[List.getElem?_toArray,List.getElem?_cons_succ,List.getElem?_cons_zero] at r q p;have d:=hid (A4E A.out G.out n);clear m l j n a z y t;simp[Leaves,settle,results,results75,go_sem,r,q,p];exact⟨k,.inl F.out,rfl,d.out⟩
theorem B4C{ev:V_}{pb:Nat}{s:B_}(w:W_)(h:T9 ev pb s 0 w){t:Rx}{j:Nat}(au:j<=s.size)(O:W9 s.data.toList 0=.ok t j):
 Calls prog 75 #[.pointer (some ⟨pb,0,none⟩)] w (A0m (W9 s.data.toList 0) s pb w):=by
 have i:Hid (∀W,PW w pb s 0 W->Calls prog 112 #[.pointer (some ⟨pb,0,none⟩)] W (T1 pb s t j W)):=hid λW hw=>((B4Z (s.size+1) 0 W (by omega) (h.next hw (by omega))).2).mono λe w' hh=>hh.ok O
 have z:=hid h.pw;have ao:=h.sz;have H:Hid (Below w.heap.size w (((w.alloc (.cells #[.slice none 0 0] 73)).alloc (.cells #[.int .i64 0] 3)).alloc (.cells #[.nilIface] 36))):=hid ((ba_.alloc (by simp) _).alloc (by simp;omega) _);have ar:∀(fn:Fn)(first cap:Array V_) (w:W_),(Instr.makeFunc fn first cap).run prog w=.ok (.func fn first cap) w:=λ_ _ _ _=>rfl
 unfold A0m;have HR:=hid O;obtain⟨N,Q⟩:∃N,N=(A0 t).length:=⟨_,rfl⟩
 have HN:=hid Q;unfold T1 at i;rw[←Q] at i;clear h O Q;have ap:=z.out.lt
 go_enter_defers func75,ntmps75
 go_wp2_with fail;refine(i.out _ (z.out.below H.out)).mono ?_;rintro e k⟨g,cap,rfl,ho,o⟩;have y:=o.grow;have G:J0 k w.heap.size 73 #[.slice none 0 0]:=J0.past (((J0.new w 73 #[.slice none 0 0]).alloc (.cells #[.int .i64 0] 3)).alloc (.cells #[.nilIface] 36)) y (by omega);have F:J0 k (w.heap.size+1) 3 #[.int .i64 0]:=J0.past ((J0.new_at (w.alloc (.cells #[.slice none 0 0] 73)) 3 #[.int .i64 0] (w.heap.size+1) (by simp)).alloc (.cells #[.nilIface] 36)) y (by omega);have E:J0 k (w.heap.size+2) 36 #[.nilIface]:=J0.past (J0.new_at ((w.alloc (.cells #[.slice none 0 0] 73)).alloc (.cells #[.int .i64 0] 3)) 36 #[.nilIface] (w.heap.size+2) (by simp)) y (by omega);have M:=G.cell 0;have L:=F.cell 0;have J:=E.cell 0;have Z:=G.frozen 0;have Y:=F.frozen 0;have X:=E.frozen 0;have V:=o.c0;have T:=o.c1;simp only[List.getElem?_toArray,List.getElem?_cons_succ,List.getElem?_cons_zero] at M L J;have B2:=hid G;have B3:=hid F;have B4:=hid E;have HP:=hid o;have HO:=hid ho;have S:=hid y;have aq:¬w.heap.size=pb:=by omega
 have ae:¬pb=w.heap.size:=by omega
 clear G F E o ho y;by_cases hj:j<s.size
 .have P:=dt_ ((j:Int)<s.size)
  have d:decide (j<s.size)=true:=by simpa using hj
  go_wp2_with fail;go_quiet (fail);go_wp2_with fail;have n:=J0.drewN (B2.out.set_ 0 (.slice (some ⟨g,0,none⟩) N cap)) nq;have m:=J0.drewN (B3.out.far (p:=⟨w.heap.size,0,none⟩) (show w.heap.size+1≠w.heap.size by omega) (.slice (some ⟨g,0,none⟩) N cap)) nq;have l:=J0.drewN (B4.out.far (p:=⟨w.heap.size,0,none⟩) (show w.heap.size+2≠w.heap.size by omega) (.slice (some ⟨g,0,none⟩) N cap)) nq;have c:=hid (M0 ((Below.refl w.heap.size k).setCell (lr_ _) (p:=⟨w.heap.size,0,none⟩) (.slice (some ⟨g,0,none⟩) N cap)) nq);refine leaves_cons (f:=111) (args:=#[.pointer (some ⟨w.heap.size,0,none⟩),.pointer (some ⟨w.heap.size+1,0,none⟩),.pointer (some ⟨w.heap.size+2,0,none⟩)]) (by simp) (by simp[go_sem]) ?_;refine(A5i w.heap.size j _ _ _ _ n m l).mono ?_;rintro e u' A⟨rfl,rfl,m2,m3,m4,b⟩;have D:=m2.cell 0;have C:=m3.cell 0;have B:=m4.cell 0;simp only[List.getElem?_toArray,List.getElem?_cons_succ,List.getElem?_cons_zero] at D C B;have a:=hid (A4E H.out S.out (c.out.trans b));clear n m l m2 m3 m4 b M L J Z Y X V T P d;simp[Leaves,settle,results,results75,go_sem,D,C,B];exact⟨j,.inr ⟨⟨t,HR.out⟩,by omega⟩,rfl,a.out⟩
 .have P:=df_ ((j:Int)<s.size)
  have d:decide (j<s.size)=false:=by simpa using hj
  go_wp2_with fail;go_quiet (fail);go_wp2_with fail;obtain rfl:j=s.size:=by omega
  have n:=(((J0.drewN (B2.out.set_ 0 (.slice (some ⟨g,0,none⟩) N cap)) nq).set_ 0 (.slice (some ⟨g,0,none⟩) N cap)).far (p:=⟨w.heap.size+1,0,none⟩) (show w.heap.size≠w.heap.size+1 by omega) (.int .i64 0)).far (p:=⟨w.heap.size+1+1,0,none⟩) (show w.heap.size≠w.heap.size+1+1 by omega) .nilIface;have m:=(((J0.drewN (B3.out.far (p:=⟨w.heap.size,0,none⟩) (show w.heap.size+1≠w.heap.size by omega) (.slice (some ⟨g,0,none⟩) N cap)) nq).far (p:=⟨w.heap.size,0,none⟩) (show w.heap.size+1≠w.heap.size by omega) (.slice (some ⟨g,0,none⟩) N cap)).set_ 0 (.int .i64 0)).far (p:=⟨w.heap.size+1+1,0,none⟩) (show w.heap.size+1≠w.heap.size+1+1 by omega) .nilIface;have l:=(((J0.drewN (B4.out.far (p:=⟨w.heap.size,0,none⟩) (show w.heap.size+2≠w.heap.size by omega) (.slice (some ⟨g,0,none⟩) N cap)) nq).far (p:=⟨w.heap.size,0,none⟩) (show w.heap.size+2≠w.heap.size by omega) (.slice (some ⟨g,0,none⟩) N cap)).far (p:=⟨w.heap.size+1,0,none⟩) (show w.heap.size+2≠w.heap.size+1 by omega) (.int .i64 0)).set_ 0 .nilIface;have r:P6 k (w.heap.size+3) (.slice (some ⟨g,0,none⟩) N cap) (A0 t):=by have:=HO.out;simpa using this
  have q:=((((r.set w.heap.size 0 (.slice (some ⟨g,0,none⟩) N cap) (by omega)).drewN nq).set w.heap.size 0 (.slice (some ⟨g,0,none⟩) N cap) (by omega)).set (w.heap.size+1) 0 (.int .i64 0) (by omega)).set (w.heap.size+1+1) 0 .nilIface (by omega);have c:=hid ((((M0 ((Below.refl w.heap.size k).setCell (lr_ _) (p:=⟨w.heap.size,0,none⟩) (.slice (some ⟨g,0,none⟩) N cap)) nq).setCell (lr_ _) (p:=⟨w.heap.size,0,none⟩) (.slice (some ⟨g,0,none⟩) N cap)).setCell (p:=⟨w.heap.size+1,0,none⟩) (by simp) (.int .i64 0)).setCell (p:=⟨w.heap.size+1+1,0,none⟩) (by simp;omega) .nilIface);refine leaves_cons (f:=111) (args:=#[.pointer (some ⟨w.heap.size,0,none⟩),.pointer (some ⟨w.heap.size+1,0,none⟩),.pointer (some ⟨w.heap.size+2,0,none⟩)]) (by simp) (by simp[go_sem]) ?_;refine(B0t ⟨w.heap.size,0,none⟩ ⟨w.heap.size+1,0,none⟩ ⟨w.heap.size+2,0,none⟩ _).mono ?_;rintro e u' A⟨rfl,rfl,b⟩;have D:A.cell? ⟨w.heap.size,0,none⟩=some (.slice (some ⟨g,0,none⟩) N cap):=(n.kept b).cell 0;have C:A.cell? ⟨w.heap.size+1,0,none⟩=some (.int .i64 0):=(m.kept b).cell 0;have B:A.cell? ⟨w.heap.size+2,0,none⟩=some .nilIface:=(l.kept b).cell 0;have R:=hid ((q.below b).base (show w.heap.size<=w.heap.size+3 by omega));have a:=hid (A4E H.out S.out (c.out.trans (b.mono (Nat.le_trans (Nat.le_trans H.out.size S.out.size) c.out.size))));clear n m l r q b M L J Z Y X V T P d;simp[Leaves,settle,results,results75,go_sem,D,C,B];exact⟨t,HR.out,g,cap,⟨rfl,HN.out,rfl⟩,by rw[←HN.out];exact R.out,a.out⟩
theorem B6g{ev:V_}{pb:Nat}{s:B_}(w:W_)(h:T9 ev pb s 0 w):
 Calls prog 75 #[.pointer (some ⟨pb,0,none⟩)] w (A0m (W9 s.data.toList 0) s pb w):=by
 cases hr:W9 s.data.toList 0 with
 | bad k=>rw[←hr];exact B2G w h hr
 | ok t j=>rw[←hr];exact B4C w h (B4h hr (by omega)) hr
def A7t(s:B_)(w:W_)(e:Ending)(w':W_):Prop:=Below w.heap.size w w' /\
 ((200<s.size/\e=.returned (.tuple #[.slice none 0 0,.int .i64 0,.iface 81 (.int .i64 3)])) \/
  (s.size<=200/\∃t,W9 s.data.toList 0=.ok t s.size/\60<(A0 t).length/\e=.returned (.tuple #[.slice none 0 0,.int .i64 0,.iface 81 (.int .i64 3)])) \/
  (s.size<=200/\∃t g cap,W9 s.data.toList 0=.ok t s.size/\(A0 t).length<=60/\e=.returned (.tuple #[.slice (some ⟨g,0,none⟩) (A0 t).length cap,.int .i64 0,.nilIface])/\P6 w' w.heap.size (.slice (some ⟨g,0,none⟩) (A0 t).length cap) (A0 t)) \/
  (s.size<=200/\∃k:Nat,(W9 s.data.toList 0=.bad k\/∃t,W9 s.data.toList 0=.ok t k/\k≠s.size)/\e=.returned (.tuple #[.slice none 0 0,.int .i64 k,.iface 81 (.int .i64 5)])))
theorem B8A{ev:V_}(s:B_)(w:W_)(c:A2K ev w):
 Calls prog 47 #[.string s] w (A7t s w):=by
 by_cases hs:200<s.size
 .have B:=dt_ ((200:Int)<s.size)
  have A:(200:Int)<s.size:=by omega
  unfold A7t;clear c;go_enter func47,ntmps47;go_wp2;refine bodyPost_ret (v:=.tuple #[.slice none 0 0,.int .i64 0,.iface 81 (.int .i64 3)]) (by simp[results,results47,go_sem]) rfl ?_;exact⟨br_,.inl ⟨hs,rfl⟩⟩
 .have B:=df_ ((200:Int)<s.size)
  have h:Below w.heap.size w (w.alloc (.cells #[.string s,.int .i64 0] 135)):=ba_;have hlt:3<w.heap.size:=World.block_lt_of_cell? w _ c.1;have z:Hid (Calls prog 75 #[.pointer (some ⟨w.heap.size,0,none⟩)] (w.alloc (.cells #[.string s,.int .i64 0] 135)) (A0m (W9 s.data.toList 0) s w.heap.size (w.alloc (.cells #[.string s,.int .i64 0] 135)))):=hid (B6g (ev:=ev) _ ⟨PW.start (J0.new w _ _),by omega,by omega,⟨(h.cell (p:=⟨3,0,none⟩) hlt).trans c.1,c.2⟩,by omega⟩);have a:=hid h;unfold A0m at z;unfold A7t;clear c h hlt;go_enter func47,ntmps47;go_wp2_with fail;refine z.out.mono ?_;rintro e r (⟨t,g,cap,i,rfl,y,b⟩|⟨k,i,rfl,b⟩)
  .have d:Below w.heap.size w r:=⟨b.os.trans a.out.os,b.tape.trans a.out.tape,b.output.trans a.out.output,Nat.le_trans a.out.size b.size,λq l=>(b.block q (by simp;omega) (λe=>by have:=Option.some.inj e;omega)).trans (a.out.block q l)⟩
   have f:=hid d;have C:=hid (y.base a.out.size);have j:=hid i;obtain⟨N,n⟩:∃N,N=(A0 t).length:=⟨_,rfl⟩
   have o:=hid n;rw[←n];clear i y b d n;by_cases h60:60<N
   .have m:=dt_ ((60:Int)<N)
    go_wp2_with fail;refine bodyPost_ret (v:=.tuple #[.slice none 0 0,.int .i64 0,.iface 81 (.int .i64 3)]) (by simp[results,results47,go_sem]) rfl ?_;exact⟨f.out,.inr (.inl ⟨by omega,t,j.out,by rw[←o.out];exact h60,rfl⟩)⟩
   .have m:=df_ ((60:Int)<N)
    go_wp2_with fail;refine bodyPost_ret (v:=.tuple #[.slice (some ⟨g,0,none⟩) N cap,.int .i64 0,.nilIface]) (by simp[results,results47,go_sem]) rfl ?_;exact⟨f.out,.inr (.inr (.inl ⟨by omega,t,g,cap,j.out,by rw[←o.out];omega,by rw[←o.out],by have:=C.out;exact this⟩))⟩
  .have d:Below w.heap.size w r:=⟨b.os.trans a.out.os,b.tape.trans a.out.tape,b.output.trans a.out.output,Nat.le_trans a.out.size b.size,λq l=>(b.block q (by simp;omega) (λe=>by have:=Option.some.inj e;omega)).trans (a.out.block q l)⟩
   have f:=hid d;have j:=hid i;clear i b d;go_wp2_with fail;refine bodyPost_ret (v:=.tuple #[.slice none 0 0,.int .i64 k,.iface 81 (.int .i64 5)]) (by simp[results,results47,go_sem]) rfl ?_;exact⟨f.out,.inr (.inr (.inr ⟨by omega,k,j.out,rfl⟩))⟩
