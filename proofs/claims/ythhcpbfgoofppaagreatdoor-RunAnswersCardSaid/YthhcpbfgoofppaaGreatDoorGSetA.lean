import Derived.Test.YthhcpbfgoofppaaGreatDoorGEach
import Derived.Test.YthhcpbfgoofppaaGreatDoorSynJ
set_option linter.unusedVariables false
set_option linter.unusedSimpArgs false
open Wf
set_option maxRecDepth 100000
set_option maxHeartbeats 4000000
open Go.Lib (hid)
open Go.Proofs.Tryz hiding parts
namespace Go.Proofs.YthhcpbfgoofppaaGreatDoor.setW
open Go.RowKit Wf
abbrev Mr:=Mb×(Nat×Nat)×ByteArray
def A3O(q:Mr):V_:=.slice (some ⟨q.2.1.1,0,none⟩) (A0 q.1.t).length q.2.1.2
def C3(q:Mr):List V_:=[.int .i64 (q.1.id:Int),.string q.1.text,A3O q,.string q.2.2]
theorem B0U(ml:List Mr):(ml.flatMap C3).length=ml.length*4:=by
 induction ml with
 | nil=>rfl
 | cons q r ih=>simp[C3] at ih ⊢;omega
theorem B8u(l:List Mr):∀(k j:Nat)(q:Mr),l[k]?=some q->j<4->(l.flatMap C3)[k*4+j]?=(C3 q)[j]?:=by
 induction l with
 | nil=>intro k j n h;simp at h
 | cons m r ih =>
   intro k j n h a;rcases k with _|k
   .simp at h
    subst h;simp only[List.flatMap_cons,Nat.zero_mul,Nat.zero_add];rw[List.getElem?_append_left (by simpa[C3] using a)]
   .simp only[List.flatMap_cons]
    rw[List.getElem?_append_right (by simp[C3];omega)];have e:(k+1)*4+j - (C3 m).length=k*4+j:=by simp[C3];omega
    rw[e];exact ih k j n (by simpa using h) a
structure SK (B b:Nat) (w w':W_):Prop where
 bel:Below B w w'
 keep:∀(i:Nat)(cs:Array V_) (t:TypeId),i≠b->t≠97->J0 w i t cs->J0 w' i t cs
section
variable {B b:Nat} {w w1 w2 w':W_}
theorem SK.trans(h:SK B b w w1)(k:SK B b w1 w2):SK B b w w2:=⟨h.bel.trans k.bel,λi cs t c a d=>k.keep i cs t c a (h.keep i cs t c a d)⟩
theorem SK.of_below(c:B<=w.heap.size)(h:Below w.heap.size w w'):SK B b w w':=⟨h.mono c,λ_ _ _ _ _ a=>a.kept h⟩
theorem SK.set(a:B<=b)(w:W_)(o:Nat)(u:V_):SK B b w (w.setCell ⟨b,o,none⟩ u):=⟨br_.setCell (p:=⟨b,o,none⟩) a u,λi cs t d _ c=>c.far (p:=⟨b,o,none⟩) d u⟩
theorem SK.grown{n:Nat}{v:V_}{f:List V_}(l:B<=w.heap.size)(d:w.ownsRow B 97 4 v n f)(a:w.grownBy w' v.ownBlock):SK B b w w':=by
 refine⟨⟨a.os,a.tape,a.output,a.size,λi k=>a.block i (by omega) λe=>by have:=(d.lt i e.symm).1;omega⟩,λi cs t _ h c=>?_⟩;refine(a.block i c.lt λe=>?_).trans c;obtain⟨_,j⟩:=d;rcases j with ⟨rfl,_⟩|⟨g,cap,cur,rfl,_,hgg,_⟩
 .cases e
 .have:i=g:=Option.some.inj e
  subst this;have hb':w.heap[i]?=some (.cells cs t (0,0)):=c;rw[hb'] at hgg;injection hgg with hgg
  injection hgg with _ hgg _
  exact h hgg
end
theorem A35{B b base n a:Nat}{e:TypeId}{w w':W_}{v:V_}{c:List V_}(h:w.ownsRow base e a v n c)(d:SK B b w w')(f:e≠97)(i:v.ownBlock≠some b):w'.ownsRow base e a v n c:=by
 refine⟨h.1,?_⟩;rcases h.2 with hn|⟨g,cap,cur,rfl,hbg,hgg,rest⟩
 .exact .inl hn
 .refine .inr ⟨g,cap,cur,rfl,hbg,?_,rest⟩
  exact d.keep g cur e (λe=>i (by rw[e];rfl)) f hgg
theorem C2{base n a b:Nat}{e t:TypeId}{w:W_}{v:V_}{d:List V_}{cs:Array V_}(h:w.ownsRow base e a v n d)(i:J0 w b t cs)(f:t≠e):v.ownBlock≠some b:=λc=>by
 rcases h.2 with ⟨rfl,_⟩|⟨g,cap,cur,rfl,_,hgg,_⟩
 .cases c
 .have:g=b:=Option.some.inj c
  subst this;have hb':w.heap[g]?=some (.cells cs t (0,0)):=i;rw[hb'] at hgg;injection hgg with hgg
  injection hgg with _ hgg _
  exact f hgg
theorem R3(W:W_)(g i:Nat)(u:V_):W.grownBy (W.setCell ⟨g,i,none⟩ u) (some g):=⟨rfl,rfl,rfl,by simp,λk _ a=>Below.heap_setCell W _ _ k (λe=>a (by rw[e]))⟩
structure M1 (B b:Nat) (m:SS) (ml:List Mr) (A:V_) (W:W_):Prop where
 hB:B<=b
 ms:m.ms=ml.map (·.1)
 blk:J0 W b 47 #[A,.int .i64 m.last,.bool m.on,.int .i64 m.tried]
 own:W.ownsRow B 97 4 A ml.length (ml.flatMap C3)
 mem:∀q∈ml,P6 W B (A3O q) (A0 q.1.t)/\q.2.2.data.toList=(S0 q.1.t).1
 ok:m.ok
 lastb:m.last<=1000000
section
variable {B b:Nat} {m:SS} {ml:List Mr} {A:V_} {W W':W_}
theorem M1.lt(h:M1 B b m ml A W):b<W.heap.size:=h.blk.lt
theorem M1.hBw(h:M1 B b m ml A W):B<=W.heap.size:=by have:=h.lt;have:=h.hB;omega
theorem M1.len(h:M1 B b m ml A W):ml.length<=12:=by have:=h.ok.len;rw[h.ms,List.length_map] at this;exact this
theorem M1.below(h:M1 B b m ml A W)(a:Below W.heap.size W W'):M1 B b m ml A W' :=
 ⟨h.hB,h.ms,h.blk.kept a,World.ownsRow.kept (row:=none) h.own ⟨a.os,a.tape,a.output,a.size,λi d _=>a.block i d⟩ (by cases hv:A.ownBlock <;> simp),λq c=>⟨(h.mem q c).1.below a,(h.mem q c).2⟩,h.ok,h.lastb⟩
theorem M1.put(h:M1 B b m ml A W)(m':SS)(d:m'.ms=m.ms)(c:m'.ok)(f:m'.last<=1000000)(o:Nat)(u:V_)(g:(#[A,.int .i64 m.last,.bool m.on,.int .i64 m.tried]:Array V_).setIfInBounds o u=#[A,.int .i64 m'.last,.bool m'.on,.int .i64 m'.tried]):M1 B b m' ml A (W.setCell ⟨b,o,none⟩ u) :=
 ⟨h.hB,d.trans h.ms,by have:=h.blk.set_ o u;rw[g] at this;exact this,h.own.kept (R3 W b o u) (.inr (C2 h.own h.blk (by decide))),λq a=>⟨A35 (h.mem q a).1 (SK.set h.hB W o u) (by decide) (C2 (h.mem q a).1 h.blk (by decide)),(h.mem q a).2⟩,c,f⟩
theorem M1.open_(h:M1 B b m ml A W):∃(c:Option Addr)(cap:Nat),A=.slice c ml.length cap/\ml.length<=cap/\cap<=9223372036854775807 /\
 (0<ml.length->∃g,c=some ⟨g,0,none⟩/\g<W.heap.size/\∀(W':W_),(∀o,W'.cell? ⟨g,o,none⟩=W.cell? ⟨g,o,none⟩)->∀k q,ml[k]?=some q ->
   W'.cell? ⟨g,k*4,none⟩=some (.int .i64 (q.1.id:Int))/\W'.cell? ⟨g,k*4+1,none⟩=some (.string q.1.text)/\W'.cell? ⟨g,k*4+2,none⟩=some (A3O q)/\W'.cell? ⟨g,k*4+3,none⟩=some (.string q.2.2)):=by
 rcases h.own.2 with ⟨hv,h0⟩|⟨g,cap,cur,hv,_,hgg,h1,h2,h3,h4⟩
 .exact⟨none,0,by rw[hv,h0],by omega,by omega,λf=>by omega⟩
 .refine⟨_,cap,hv,h1,by unfold maxLen at h2;omega,λf=>⟨g,rfl,(Array.getElem?_eq_some_iff.1 hgg).1,λW' n k q i=>?_⟩⟩
  have a:∀j u,j<4->(C3 q)[j]?=some u->W.cell? ⟨g,k*4+j,none⟩=some u:=by
   intro j u l d;have:=h.own.cells (g:=g) (by rw[hv];rfl) (k*4+j) u (by rw[B8u ml k j q i l];exact d);rw[Z5,Nat.zero_add] at this;exact this
  simp only[n];exact⟨a 0 _ (by omega) rfl,a 1 _ (by omega) rfl,a 2 _ (by omega) rfl,a 3 _ (by omega) rfl⟩
end
def B6P(w:W_)(e:Ending)(w':W_):Prop:=e=.returned (.pointer (some ⟨w.heap.size,0,none⟩))/\M1 w.heap.size w.heap.size SS.zero [] (.slice none 0 0) w'/\Below w.heap.size w w'
theorem B8B(w:W_):Calls prog 7 #[] w (B6P w):=by
 go_enter func7,ntmps7;go_wp2;go_ret;exact⟨rfl,⟨lr_ _,rfl,J0.new _ _ _,⟨by simp,.inl ⟨rfl,rfl⟩⟩,λq a=>(by cases a),SS.ok_zero,by decide⟩,ba_⟩
def C0D(a:V_)(B b:Nat)(m:SS)(w:W_)(e:Ending)(w':W_):Prop:=e=.returned a/\∃ml A,M1 B b m ml A w'/\SK B b w w'
theorem A5y(B b:Nat)(m:SS)(ml:List Mr)(A:V_)(on:Bool)(w:W_)(h:M1 B b m ml A w):
 Calls prog 19 #[.pointer (some ⟨b,0,none⟩),.bool on] w (C0D (.tuple #[]) B b { m with on:=on } w):=by
 have a:=h.blk.frozen 2;have c:w.cell? ⟨b,2,none⟩=some (.bool m.on):=h.blk.cell 2;have H:=hid h;clear h;go_enter func19,ntmps19;go_wp2
 go_end0
 exact⟨rfl,ml,A,H.out.put { m with on:=on } rfl (H.out.ok.tried on m.tried) H.out.lastb 2 _ rfl,SK.set H.out.hB _ _ _⟩
theorem B3l(B b:Nat)(m:SS)(ml:List Mr)(A:V_)(w:W_)(h:M1 B b m ml A w):
 Calls prog 21 #[.pointer (some ⟨b,0,none⟩)] w (λe w'=>e=.returned (.int .i64 m.tried)/\w=w'):=by
 have a:w.cell? ⟨b,3,none⟩=some (.int .i64 m.tried):=h.blk.cell 3;clear h;go_enter func21,ntmps21;go_wp2;go_ret;exact⟨rfl,rfl⟩
theorem B0N{m:SS}{ml:List Mr}{x:Int}(a:m.ms=ml.map (·.1))(h:∀(k:Nat)(q:Mr),ml[k]?=some q->((q.1.id:Int)≠x)):m.place x=none:=by
 unfold SS.place;rw[List.findIdx?_eq_none_iff];intro y c;rw[a] at c;obtain⟨q,d,rfl⟩:=List.mem_map.1 c;obtain⟨k,f⟩:=List.mem_iff_getElem?.1 d
 simpa using h k q f
theorem B0L{m:SS}{ml:List Mr}{x:Int}{k:Nat}{q:Mr}(a:m.ms=ml.map (·.1))(d:ml[k]?=some q)(c:(q.1.id:Int)=x)(h:∀(j:Nat)(q:Mr),j<k->ml[j]?=some q->((q.1.id:Int)≠x)):m.place x=some k:=by
 unfold SS.place;rw[List.findIdx?_eq_some_iff_getElem,a];have hlt:=(List.getElem?_eq_some_iff.1 d)
 obtain⟨hlt,g⟩:=hlt;refine⟨by simpa using hlt,?_,λj f=>?_⟩
 .simp[g,c]
 .have:=h j (ml[j]'(by omega)) f (List.getElem?_eq_getElem (by omega))
  simpa using this
def A4f:Option Nat->Int
 | some k=>(k:Int)
 | none=>-1
theorem B97(a g N cap:Nat)(d f:B_)(x:Int)(b:Nat)(w:W_)(h:w.cell? ⟨b,0,none⟩=some (.int .i64 x))(r:Bool)(c:r=decide ((a:Int)=x)):
 Calls prog 82 #[.agg #[.int .i64 a,.string d,.slice (some ⟨g,0,none⟩) N cap,.string f],.pointer (some ⟨b,0,none⟩)] w (λe w'=>e=.returned (.bool r)/\Below w.heap.size w w'):=by
 have i:((a:Int)==x)=r:=by rw[c,Bool.eq_iff_iff];simp
 have j:b<w.heap.size:=World.block_lt_of_cell? w _ h;clear c;go_enter func82,ntmps82;go_wp2;go_ret;exact⟨rfl,ba_⟩
theorem A9l(B b pb:Nat)(m:SS)(ml:List Mr)(A:V_)(x:Int)(w:W_)(h:M1 B b m ml A w)(F:w.cell? ⟨pb,0,none⟩=some (.int .i64 x)):
 Calls prog 81 #[A,.func (.func 82) #[] #[.pointer (some ⟨pb,0,none⟩)]] w (λe w'=>e=.returned (.int .i64 (A4f (m.place x)))/\Below w.heap.size w w'):=by
 obtain⟨Ao,cap,rfl,af,ae,d⟩:=h.open_;have O:=h.len;have s:=h.ms;have HM:=hid d;have HX:=hid λW (hb:Below w.heap.size w W)=>(hb.cell (p:=⟨pb,0,none⟩) (World.block_lt_of_cell? w _ F)).trans F
 have D:=hid s;obtain⟨R,H⟩:∃R,R=A4f (m.place x):=⟨_,rfl⟩
 have P:=hid H;rw[←H];clear h d F s H;go_enter func81,ntmps81;go_wp2_with fail
 go_loopw [8] (λv8 wr=>∃k:Nat,k<=ml.length/\v8=.int .i64 k/\Hid (∀(j:Nat)(q:Mr),j<k->ml[j]?=some q->((q.1.id:Int)≠x))/\Hid (Below w.heap.size w wr)) (λi _=>ml.length - (intOf i).toNat)
 case atStart=>exact⟨0,by omega,rfl,hid (λj q hj=>by omega),hid br_⟩
 case round =>
  obtain⟨k,hk,rfl,L,l⟩:=hrel;by_cases hlt:k<ml.length
  .obtain⟨g,rfl,hg,y⟩:=HM.out (by omega)
   have a:ml[k]?=some (ml[k]'hlt):=List.getElem?_eq_getElem hlt;generalize ml[k]'hlt=q at a;obtain⟨m0,m1,E,Z⟩:=y wr (λo=>l.out.cell (p:=⟨g,o,none⟩) hg) k q a;have z:=HX.out wr l.out;have Q:=hid a;obtain⟨⟨M,T,t⟩,⟨V,Y⟩,X⟩:=q;unfold A3O at E;dsimp only at m0 m1 E Z;generalize (A0 t).length=N at E;have k0:(0:Int)<=k:=by omega
   have k1:(k:Int)<ml.length:=by omega
   obtain⟨r,G⟩:∃r,r=decide ((M:Int)=x):=⟨_,rfl⟩
   have S:=hid (B97 M V N Y T X x pb wr z r G);have C:=hid G;clear a y z G;cases r with
   | true =>
     go_wp2_with fail;refine S.out.mono ?_;rintro e w2⟨rfl,c⟩;have f:=hid (l.out.trans (c.mono l.out.size));clear c;go_wp2_with fail;go_ret;refine⟨?_,f.out⟩;rw[P.out,B0L D.out Q.out (by simpa using C.out.symm) L.out]
     rfl
   | false =>
     go_wp2_with fail;refine S.out.mono ?_;rintro e w2⟨rfl,c⟩;have f:=hid (l.out.trans (c.mono l.out.size))
     have J:Hid (∀(j:Nat)(q:Mr),j<k+1->ml[j]?=some q->((q.1.id:Int)≠x)):=hid λj q hj n=>by
      by_cases e:j=k
      .subst e
       rw[Q.out] at n;cases n
       simpa using C.out
      .exact L.out j q (by omega) n
     clear c;go_wp2_with fail;refine⟨⟨k+1,by omega,by go_num,J,f⟩,by simp[intOf];omega⟩
  .obtain rfl:k=ml.length:=by omega
   go_wp2_with fail;go_ret;refine⟨?_,l.out⟩;rw[P.out,B0N D.out (λj q n=>L.out j q (List.getElem?_eq_some_iff.1 n).1 n)]
   rfl
theorem B96(B b:Nat)(m:SS)(ml:List Mr)(A:V_)(x:Int)(w:W_)(h:M1 B b m ml A w):
 Calls prog 51 #[.pointer (some ⟨b,0,none⟩),.int .i64 x] w (λe w'=>e=.returned (.int .i64 (A4f (m.place x)))/\Below w.heap.size w w'):=by
 have a:Below w.heap.size w (w.alloc (.cells #[.int .i64 x] 3)):=ba_;have j:=hid (A9l B b w.heap.size m ml A x _ (h.below a) (by simp));have k:w.cell? ⟨b,0,none⟩=some A:=h.blk.cell 0;have hlt:=h.lt;have d:=hid a;have i:∀(g:Fn)(first cap:Array V_) (w:W_),(Instr.makeFunc g first cap).run prog w=.ok (.func g first cap) w:=λ_ _ _ _=>rfl
 obtain⟨l,cap,rfl,_⟩:=h.open_;generalize A4f (m.place x)=R at *;clear h a;go_enter func51,ntmps51;go_wp2_with fail;refine j.out.mono ?_;rintro e w2⟨rfl,c⟩;have f:=hid (d.out.trans (c.mono (by simp)));clear c;go_wp2_with fail;go_ret;exact⟨rfl,f.out⟩
