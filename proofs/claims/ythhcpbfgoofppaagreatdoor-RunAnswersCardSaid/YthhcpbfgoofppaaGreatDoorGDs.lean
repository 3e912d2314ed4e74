import Derived.Test.YthhcpbfgoofppaaGreatDoorGRdrD
import Derived.Test.YthhcpbfgoofppaaGreatDoorGSetI
set_option linter.unusedVariables false
set_option linter.unusedSimpArgs false
open Wf
set_option maxRecDepth 100000
set_option maxHeartbeats 8000000
open Go.Lib (hid)
open Go.Proofs.Tryz hiding parts
namespace Go.Proofs.YthhcpbfgoofppaaGreatDoor.setW
open Go.RowKit Wf
structure DK (B b:Nat) (w w':W_):Prop where
 bel:Below B w w'
 keep:∀(i:Nat)(cs:Array V_) (t:TypeId),i≠b->t≠53->t≠73->J0 w i t cs->J0 w' i t cs
theorem A2F{w w':W_}{base n a i:Nat}{e t:TypeId}{v:V_}{d:List V_}{cs:Array V_}(c:J0 w i t cs)(h:w.ownsRow base e a v n d)(g:w.grownBy w' v.ownBlock)(f:t≠e):J0 w' i t cs :=
 (g.block i (J0.lt c) (λj=>C2 h c f j.symm)).trans c
theorem g9{w w':W_}{r k o h n f:Nat}{j a:TypeId}{v1 v2:V_}{l d:List V_}(i:w.ownsRow k a f v2 h d)(q:w.ownsRow r j n v1 o l)(p:w.grownBy w' v1.ownBlock)(c:a≠j):w'.ownsRow k a f v2 h d:=by
 refine⟨i.1,?_⟩;rcases i.2 with hn|⟨g,cap,cur,hv,hbg,hgg,rest⟩
 .exact .inl hn
 .exact .inr ⟨g,cap,cur,hv,hbg,A2F (show J0 w g a cur from hgg) q p c,rest⟩
theorem A34{w w':W_}{base n a f:Nat}{e:TypeId}{v u:V_}{i:List V_}{l:List Nd}(k:P1 w f u l)(h:w.ownsRow base e a v n i)(o:w.grownBy w' v.ownBlock)(c:e≠114):P1 w' f u l:=by
 obtain⟨g,cap,d,j,y,t,s,r,q,p⟩:=k;exact⟨g,cap,d,j,y,t,s,r,A2F q h o (Ne.symm c),p⟩
theorem A0N{w:W_}{d b:Nat}{t:TypeId}{u x:V_}{o:Nat}{cs:Array V_}{l:List Nd}(j:P1 w d u l)(k:J0 w b t cs)(i:t≠114):P1 (w.setCell ⟨b,o,none⟩ x) d u l:=by
 obtain⟨g,cap,c,h,y,s,r,q,f,n⟩:=j;refine⟨g,cap,c,h,y,s,r,q,f.far (p:=⟨b,o,none⟩) (λe=>?_) x,n⟩;have e':g=b:=e;subst e';have a:some (Obj.cells cs t (0,0))=some (Obj.cells c 114 (0,0)):=(show w.heap[g]?=_ from k).symm.trans f;injection a with a
 injection a with _ a _
 exact i a
section
variable {B b:Nat} {w w1 w2 w':W_}
theorem DK.refl(B b:Nat)(w:W_):DK B b w w:=⟨br_,λ_ _ _ _ _ _ h=>h⟩
theorem DK.trans(h:DK B b w w1)(k:DK B b w1 w2):DK B b w w2:=⟨h.bel.trans k.bel,λi cs t d c a f=>k.keep i cs t d c a (h.keep i cs t d c a f)⟩
theorem DK.of_below(c:B<=w.heap.size)(h:Below w.heap.size w w'):DK B b w w':=⟨h.mono c,λ_ _ _ _ _ _ a=>a.kept h⟩
theorem DK.set(a:B<=b)(w:W_)(o:Nat)(u:V_):DK B b w (w.setCell ⟨b,o,none⟩ u):=⟨br_.setCell (p:=⟨b,o,none⟩) a u,λi cs t d _ _ c=>c.far (p:=⟨b,o,none⟩) d u⟩
theorem DK.grown{n c:Nat}{e:TypeId}{v:V_}{g:List V_}(p:B<=w.heap.size)(h:e=53\/e=73)(d:w.ownsRow B e c v n g)(a:w.grownBy w' v.ownBlock):DK B b w w':=by
 refine⟨⟨a.os,a.tape,a.output,a.size,λi o=>a.block i (by omega) λe=>by have:=(d.lt i e.symm).1;omega⟩,λi cs t _ l k j=>?_⟩;refine A2F j d a (λf=>?_);rcases h with rfl|rfl
 .exact l f
 .exact k f
end
structure o9 (B b:Nat) (m:SS) (AI AP:V_) (vs:List V_) (W:W_):Prop where
 hB:B<=b
 blk:J0 W b 44 #[AI,AP,.int .i64 m.last,.bool m.on,.int .i64 m.tried]
 its:W.ownsRow B 53 2 AI m.ms.length (m.ms.flatMap M2)
 pts:W.ownsRow B 73 1 AP m.ms.length vs
 rows:r6 W B vs (m.ms.map λx=>A0 x.t)
 ok:m.ok
 lastb:m.last<=1000000
section
variable {B b:Nat} {m:SS} {AI AP:V_} {vs:List V_} {W W':W_}
theorem o9.lt(h:o9 B b m AI AP vs W):b<W.heap.size:=h.blk.lt
theorem o9.hBw(h:o9 B b m AI AP vs W):B<=W.heap.size:=by have:=h.lt;have:=h.hB;omega
theorem o9.below(h:o9 B b m AI AP vs W)(a:Below W.heap.size W W'):o9 B b m AI AP vs W' :=
 ⟨h.hB,h.blk.kept a,B7 h.its a,B7 h.pts a,h.rows.keep λu l c=>c.below a,h.ok,h.lastb⟩
theorem o9.put(h:o9 B b m AI AP vs W)(m':SS)(a:m'.ms=m.ms)(c:m'.ok)(f:m'.last<=1000000)(o:Nat)(u:V_)(g:(#[AI,AP,.int .i64 m.last,.bool m.on,.int .i64 m.tried]:Array V_).setIfInBounds o u=#[AI,AP,.int .i64 m'.last,.bool m'.on,.int .i64 m'.tried]):o9 B b m' AI AP vs (W.setCell ⟨b,o,none⟩ u) :=
 ⟨h.hB,by have:=h.blk.set_ o u;rw[g] at this;exact this,by rw[a];exact h.its.kept (R3 W b o u) (.inr (C2 h.its h.blk (by decide))),by rw[a];exact h.pts.kept (R3 W b o u) (.inr (C2 h.pts h.blk (by decide))),by rw[a];exact h.rows.keep λu l d=>A0N d h.blk (by decide),c,f⟩
end
theorem A8d{m:SS}{x:Int}(h:∀(k:Nat)(q:Mb),m.ms[k]?=some q->((q.id:Int)≠x)):m.place x=none:=by
 unfold SS.place;rw[List.findIdx?_eq_none_iff];intro q a;obtain⟨k,c,e⟩:=List.getElem_of_mem a;have:=h k q (by rw[List.getElem?_eq_getElem c,e])
 simpa using this
theorem A8c{m:SS}{x:Int}{k:Nat}{q:Mb}(c:m.ms[k]?=some q)(a:(q.id:Int)=x)(h:∀(j:Nat)(q:Mb),j<k->m.ms[j]?=some q->((q.id:Int)≠x)):m.place x=some k:=by
 unfold SS.place;rw[List.findIdx?_eq_some_iff_getElem];obtain⟨hlt,f⟩:=List.getElem?_eq_some_iff.1 c;refine⟨hlt,?_,λj d=>?_⟩
 .simp[f,a]
 .have:=h j (m.ms[j]'(by omega)) d (List.getElem?_eq_getElem (by omega))
  simpa using this
theorem A3t(B b:Nat)(m:SS)(AI AP:V_)(vs:List V_)(x:Int)(w:W_)(h:o9 B b m AI AP vs w):
 Calls prog 40 #[.pointer (some ⟨b,0,none⟩),.int .i64 x] w (λe w'=>e=.returned (.int .i64 (A4f (m.place x)))/\w=w'):=by
 obtain⟨A,cap,rfl,C,l,c⟩:=A0v (Rd.of_own h.its);have V:w.cell? ⟨b,0,none⟩=some (.slice A m.ms.length cap):=h.blk.cell 0;have y:=h.ok.len;have P:=hid c;have r:=hid λ(hh:∀(k:Nat)(q:Mb),m.ms[k]?=some q->((q.id:Int)≠x))=>A8d hh
 have p:=hid λ(k:Nat)(q:Mb) (z:m.ms[k]?=some q) (a:(q.id:Int)=x) (hh:∀(j:Nat)(q:Mb),j<k->m.ms[j]?=some q->((q.id:Int)≠x))=>A8c z a hh
 obtain⟨R,n⟩:∃R,R=A4f (m.place x):=⟨_,rfl⟩
 rw[←n];have D:=hid n;generalize m.ms=ms at *;clear n h c;go_enter func40,ntmps40;go_wp2
 go_loopw [5] (λv5 wr=>∃k:Nat,k<=ms.length/\v5=.int .i64 k/\Hid (∀(j:Nat)(q:Mb),j<k->ms[j]?=some q->((q.id:Int)≠x))/\Hid (w=wr)) (λv _=>ms.length - (intOf v).toNat)
 case atStart=>exact⟨0,by omega,rfl,hid (λj q H=>by omega),hid (by first | rfl | trivial)⟩
 case round =>
  obtain⟨k,z,rfl,s,O⟩:=hrel;have G:=O.out;subst G;by_cases hlt:k<ms.length
  .have d:decide (k<ms.length)=true:=by simpa using hlt
   have N:=dt_ ((k:Int)<ms.length);have L:(0:Int)<=k:=by omega
   have J:(k:Int)<ms.length:=by omega
   obtain⟨g,o,rfl,Q,i⟩:=P.out (by omega);obtain⟨q,a⟩:∃q,ms[k]?=some q:=⟨_,List.getElem?_eq_getElem hlt⟩
   obtain⟨T,S⟩:=i w (λ_=>rfl) k q a;have E:=hid a;clear a i;by_cases he:(q.id:Int)=x
   .have M:((q.id:Int)==x)=true:=by simpa using he
    have t:=hid he;clear he;go_wp2;go_ret;exact⟨by rw[D.out,p.out k q E.out t.out s.out];rfl,by first | rfl | trivial⟩
   .have M:((q.id:Int)==x)=false:=by simpa using he
    have t:=hid he;clear he;go_wp2;go_roundw
    case rel=>exact⟨k+1,by omega,by go_num,hid (λj F H f=>by
     by_cases ej:j=k
     .subst ej;rw[E.out] at f;cases f;exact t.out
     .exact s.out j F (by omega) f),hid (by first | rfl | trivial)⟩
    case measure=>simp[intOf];omega
  .obtain rfl:k=ms.length:=by omega
   have d:decide (ms.length<ms.length)=false:=by simp
   have N:decide ((ms.length:Int)<(ms.length:Int))=false:=by simp
   go_wp2;go_ret;exact⟨by rw[D.out,r.out λk q a=>s.out k q (List.getElem?_eq_some_iff.1 a).1 a];rfl,by first | rfl | trivial⟩
end Go.Proofs.YthhcpbfgoofppaaGreatDoor.setW
namespace Wf
def H7{α:Type}(l:List α)(k i:Nat):List α:=(l.take i).eraseIdx k
theorem B1T{α:Type}{l:List α}{k:Nat}{x:α}(h:l[k]?=some x):l.take (k+1)=l.take k++[x]:=by
 rw[List.take_add_one,h];rfl
theorem A6g{α β:Type}(f:α->β):∀(l:List α)(k:Nat),(l.eraseIdx k).map f=(l.map f).eraseIdx k
 | [],k=>by simp
 | a::l,0=>by simp
 | a::l,k+1=>by simp[A6g f l k]
theorem A0g{α:Type}(l:List α)(k:Nat):H7 l k 0=[]:=by unfold H7;simp
theorem A6n{α:Type}(l:List α)(k:Nat):H7 l k l.length=l.eraseIdx k:=by unfold H7;rw[List.take_length]
theorem A2B{α:Type}{l:List α}{k:Nat}{x:α}(h:l[k]?=some x):H7 l k (k+1)=H7 l k k:=by
 unfold H7;rw[B1T h];have c:=(List.getElem?_eq_some_iff.1 h).1;have a:(l.take k).length=k:=by simp;omega
 rw[List.eraseIdx_append_of_length_le (by omega),a,Nat.sub_self,List.eraseIdx_of_length_le (l:=l.take k) (by omega)];simp
theorem A1h{α:Type}{l:List α}{k i:Nat}{x:α}(h:l[i]?=some x)(a:i≠k):H7 l k (i+1)=H7 l k i++[x]:=by
 unfold H7;rw[B1T h];have d:=(List.getElem?_eq_some_iff.1 h).1;have c:(l.take i).length=i:=by simp;omega
 rcases Nat.lt_or_ge k i with hki|hki
 .rw[List.eraseIdx_append_of_lt_length (by omega)]
 .rw[List.eraseIdx_append_of_length_le (by omega),c,List.eraseIdx_of_length_le (l:=l.take i) (by omega),List.eraseIdx_of_length_le (by simp;omega)]
theorem B23{α:Type}(l:List α)(k i:Nat):(H7 l k i).length<=i:=by
 unfold H7;rw[List.length_eraseIdx]
 split <;> simp <;> omega
theorem B22{α β:Type}(f:α->β)(l:List α)(k i:Nat):(H7 l k i).map f=H7 (l.map f) k i:=by
 unfold H7;rw[A6g,List.map_take]
end Wf
namespace Go.Proofs.YthhcpbfgoofppaaGreatDoor.setW
open Go.RowKit Wf
theorem B4U{w:W_}{f:Nat}{vs:List V_}{a:List (List Nd)}(h:r6 w f vs a)(k i:Nat):i<=vs.length->r6 w f (H7 vs k i) (H7 a k i):=by
 induction i with
 | zero=>intro _;rw[A0g,A0g];exact r6.nil _ _
 | succ i ih =>
   intro g;obtain⟨u,c⟩:∃u,vs[i]?=some u:=⟨_,List.getElem?_eq_getElem (by omega)⟩
   obtain⟨l,d⟩:∃l,a[i]?=some l:=⟨_,List.getElem?_eq_getElem (by have:=h.1;omega)⟩
   by_cases e:i=k
   .subst e
    rw[A2B c,A2B d];exact ih (by omega)
   .rw[A1h c e,A1h d e]
    exact(ih (by omega)).snoc (h.2 i u l c d)
theorem A1H{w:W_}{base a n c:Nat}{e:TypeId}{v:V_}{d:List V_}(h:w.ownsRow base e c v n d)(f:a<=base):w.ownsRow a e c v n d:=by
 refine⟨h.1,?_⟩;rcases h.2 with hn|⟨g,cap,cur,hv,h1,rest⟩
 .exact .inl hn
 .exact .inr ⟨g,cap,cur,hv,Nat.le_trans f h1,rest⟩
theorem A7a(l:List Mb)(q:Mb):(l++[q]).flatMap M2=l.flatMap M2++M2 q:=by simp
theorem B8r(W:W_)(t:TypeId)(x y:V_)(g:Nat)(c:g=W.heap.size):∀(j:Nat)(u:V_),[x,y][j]?=some u->(W.alloc (.cells #[x,y] t)).cell? ((⟨g,0,none⟩:Addr).add j)=some u:=by
 intro j u a;subst c;rw[Z5,Nat.zero_add,(J0.new W t #[x,y]).cell]
 simpa using a
def DTo(a:V_)(B b:Nat)(m:SS)(w:W_)(e:Ending)(w':W_):Prop:=e=.returned a/\∃(AI AP:V_)(vs:List V_),o9 B b m AI AP vs w'/\DK B b w w'
theorem B3v(B b:Nat)(m:SS)(AI AP:V_)(vs:List V_)(x:Int)(w:W_)(h:o9 B b m AI AP vs w):
 Calls prog 38 #[.pointer (some ⟨b,0,none⟩),.int .i64 x] w (DTo (.int .i64 (m.removed x)) B b (m.remove x) w):=by
 have HP:=hid (A3t B b m AI AP vs x w h);unfold DTo SS.removed SS.remove;cases hp:m.place x with
 | none =>
   rw[hp] at HP;have H:=hid h;clear h hp;go_enter func38,ntmps38;go_wp2_with fail;refine HP.out.mono ?_;rintro e w1⟨rfl,rfl⟩;have d:decide ((A4f none:Int)<0)=true:=by decide
   have d':A4f none=-1:=rfl;go_wp2_with fail;go_ret;exact⟨rfl,AI,AP,vs,H.out,DK.refl _ _ _⟩
 | some kk =>
   rw[hp] at HP;have aN:=A0e hp;obtain⟨i0,aO,aH,aG,aF⟩:=info_parts A4C;obtain⟨aE,aj,ai,ah,ag⟩:=info_parts A5Z;have al:=h.ok.len;have j:(m.remove x).ok:=h.ok.remove x;unfold SS.remove at j;rw[hp] at j;have aX:=hid j;have aL:=h.lastb;have i:=h.rows;have af:vs.length=m.ms.length:=by have:=i.1;rwa[List.length_map] at this
   obtain⟨A,cap,rfl,ap,aQ,O⟩:=A0v (Rd.of_own h.its);obtain⟨A2,Q,rfl,aP,bg,C⟩:=A1G h.pts;have HM:=hid O;have ax:=hid C;have ab:=hid i;have H:=hid h;have ae:=h.hB;have aa:=h.hBw;have hlt:=h.lt;clear hp O C i j h;obtain⟨a,z⟩:∃a,a=m.ms:=⟨_,rfl⟩
   have ad:=hid z;rw[←z] at HM ax af al aN ap aP ab;have c0:w.cell? ⟨b,0,none⟩=some (.slice A a.length cap):=by rw[z];exact H.out.blk.cell 0
   have c1:w.cell? ⟨b,1,none⟩=some (.slice A2 a.length Q):=by rw[z];exact H.out.blk.cell 1
   have HC:Hid (∀W,Below w.heap.size w W->W.cell? ⟨b,0,none⟩=some (.slice A a.length cap)/\W.cell? ⟨b,1,none⟩=some (.slice A2 a.length Q)):=hid λW hW=>⟨(hW.cell (p:=⟨b,0,none⟩) hlt).trans c0,(hW.cell (p:=⟨b,1,none⟩) hlt).trans c1⟩
   have bh:Hid (w.ownsRow B 53 2 (.slice A m.ms.length cap) m.ms.length (m.ms.flatMap M2)):=hid H.out.its;clear z;rw[show A4f (some kk)=(kk:Int) from rfl] at HP;go_enter func38,ntmps38;go_wp2_with fail;refine HP.out.mono ?_;rintro e w1⟨rfl,aI⟩;subst aI;have d:decide ((kk:Int)<0)=false:=by simp
   go_wp2_with fail
   go_loopw [6,7,8] (λv6 v7 v8 wr=>∃k:Nat,k<=a.length/\v8=.int .i64 k/\Hid (wr.ownsRow w.heap.size 53 2 v6 (H7 a kk k).length ((H7 a kk k).flatMap M2))/\Hid (wr.ownsRow w.heap.size 73 1 v7 (H7 a kk k).length (H7 vs kk k))/\Hid (Below w.heap.size w wr)) (λ_ _ v _=>a.length - (intOf v).toNat)
   case atStart=>exact⟨0,by omega,rfl,hid (by rw[A0g];exact World.ownsRow_nil _ _ _ _),hid (by rw[A0g,A0g];exact World.ownsRow_nil _ _ _ _),hid br_⟩
   case round =>
    obtain⟨k,hk,rfl,G,c,L⟩:=hrel;clear c0 c1;obtain⟨c0,c1⟩:=HC.out wr L.out;have aJ:=L.out.size;have aM:=B23 a kk k;by_cases hlt2:k<a.length
    .have d1:decide (k<a.length)=true:=by simpa using hlt2
     have d2:=dt_ ((k:Int)<a.length);have hi0':(0:Int)<=k:=by omega
     have bn:(k:Int)<a.length:=by omega
     obtain⟨q,hq⟩:∃q,a[k]?=some q:=⟨_,List.getElem?_eq_getElem hlt2⟩
     obtain⟨u,M⟩:∃u,vs[k]?=some u:=⟨_,List.getElem?_eq_getElem (by omega)⟩
     have HQ:=hid hq;have HU:=hid M;clear hq M;by_cases he:k=kk
     .have de:((k:Int) !=(kk:Int))=false:=by rw[he];simp
      have HE:=hid he;clear he;go_wp2_with fail;go_roundw
      case rel=>exact⟨k+1,by omega,by go_num,hid (by have h:=G.out;rw[←HE.out] at h ⊢;rw[A2B HQ.out];exact h),hid (by have h:=c.out;rw[←HE.out] at h ⊢;rw[A2B HQ.out,A2B HU.out];exact h),L⟩
      case measure=>simp[intOf];omega
     .have de:((k:Int) !=(kk:Int))=true:=by simp;omega
      have HE:=hid he;clear he;obtain⟨g,o,rfl,hg,ao⟩:=HM.out (by omega);obtain⟨g2,rfl,am,D⟩:=ax.out (by omega);obtain⟨g0,g1⟩:=ao wr (λo=>L.out.cell (p:=⟨g,o,none⟩) hg) k q HQ.out;have g3:=D wr (L.out.block g2 am) k u HU.out;have bf:g2<wr.heap.size:=by omega
      have ba:Hid (∀W,Below w.heap.size w W->W.cell? ⟨g2,k,none⟩=some u):=hid λW hW=>D W (hW.block g2 am) k u HU.out
      obtain⟨l,hl⟩:∃l,(a.map λx=>A0 x.t)[k]?=some l:=⟨_,List.getElem?_eq_getElem (by simpa using hlt2)⟩
      obtain⟨gu,F,rfl,_⟩:=(ab.out.2 k u l HU.out hl).form;clear ao D hl;obtain⟨N,T⟩:∃N,N=(H7 a kk k).length:=⟨_,rfl⟩
      rw[←T] at G c aM;have HN:=hid T;have ay:Hid (H7 a kk (k+1)=H7 a kk k++[q]):=hid (A1h HQ.out HE.out);have a_:Hid (H7 vs kk (k+1)=H7 vs kk k++[.slice (some ⟨gu,0,none⟩) l.length F]):=hid (A1h HU.out HE.out);clear T;have bm:w.heap.size<=w.heap.size:=lr_ _
      go_wp2_with (first
       | (at_builtin;refine wpList_append_own _ rfl (.tmp 26) (.tmp 34) _ rfl w.heap.size 53 i0 _ 2 24 underlying41 aO aH aG aF rfl (by omega) _ N ((H7 a kk k).flatMap M2) rfl (G.out.alloc _) ⟨wr.heap.size,0,none⟩ 1 1 [.int .i64 q.id,.string q.text] rfl rfl (B8r _ _ _ _ _ rfl) (by intro u M;simp at M;rcases M with rfl | rfl <;> rfl) (by unfold maxLen;omega) (by omega) (by simp;omega) ?_;intro v3 w3 y S _;have aq:Below w.heap.size w (wr.alloc (.cells #[.int .i64 q.id,.string q.text] 53)):=L.out.alloc aJ _;have E:=J4 aq (lr_ _) (by simp;omega) (G.out.alloc _) S;have bc:=hid E;have aZ:=hid y;have ac:=hid (g9 (c.out.alloc _) (G.out.alloc _) S (by decide));have c1':=(HC.out w3 E).2;have g3':=ba.out w3 E;have aK:=E.size;clear y S aq E)
       | (at_builtin;refine wpList_append_own _ rfl (.tmp 36) (.tmp 44) _ rfl w.heap.size 73 aE _ 1 24 underlying42 aj ai ah ag rfl (by omega) _ N (H7 vs kk k) rfl (ac.out.alloc _) ⟨w3.heap.size,0,none⟩ 1 1 [.slice (some ⟨gu,0,none⟩) l.length F] rfl rfl (A3X _ _ _ _ rfl) (by intro u M;simp at M;subst M;rfl) (by unfold maxLen;omega) (by omega) (by simp;omega) ?_;intro v4 w4 s R _;have P:Below w.heap.size w (w3.alloc (.cells #[.slice (some ⟨gu,0,none⟩) l.length F] 73)):=bc.out.alloc aK _;have bb:=hid (J4 P (lr_ _) (by simp;omega) (ac.out.alloc _) R);have aY:=hid (g9 (aZ.out.alloc _) (ac.out.alloc _) R (by decide));have aW:=hid s;clear s R P))
      go_roundw
      case rel=>exact⟨k+1,by omega,by go_num,hid (by rw[ay.out,List.length_append,←HN.out,A7a];exact aY.out),hid (by rw[ay.out,List.length_append,←HN.out,a_.out];exact aW.out),bb⟩
      case measure=>simp[intOf];omega
    .obtain rfl:k=a.length:=by omega
     have d1:decide (a.length<a.length)=false:=by simp
     have d2:decide ((a.length:Int)<(a.length:Int))=false:=by simp
     have Z:H7 a kk a.length=a.eraseIdx kk:=A6n a kk;have V:H7 vs kk a.length=vs.eraseIdx kk:=by rw[←af];exact A6n vs kk
     rw[Z] at G c;rw[V] at c;obtain⟨X,f,rfl⟩:=B0b G.out;obtain⟨Y,n,rfl,_⟩:=A1G c.out;have r:=hid (H.out.blk.kept L.out);have z0:wr.frozen? ⟨b,0,none⟩=false:=r.out.frozen 0;have z1:wr.frozen? ⟨b,1,none⟩=false:=r.out.frozen 1
     have aV:Hid (r6 w B (vs.eraseIdx kk) ((a.eraseIdx kk).map λx=>A0 x.t)):=hid (by
      have:=B4U ab.out kk a.length (by omega);rw[V,←B22,Z] at this;exact this)
     clear Z V;obtain⟨N,T⟩:∃N,N=(a.eraseIdx kk).length:=⟨_,rfl⟩
     rw[←T] at G c ⊢;have HN:=hid T;clear T;go_wp2_with fail;go_ret;have J:=r.out.set_ 0 (.slice X N f);have aR:=J.set_ 1 (.slice Y N n);refine⟨rfl,.slice X N f,.slice Y N n,vs.eraseIdx kk,⟨ae,?_,?_,?_,?_,aX.out,aL⟩,((DK.of_below aa L.out).trans (DK.set ae _ _ _)).trans (DK.set ae _ _ _)⟩
     .exact aR
     .show World.ownsRow _ B _ 2 _ (m.ms.eraseIdx kk).length ((m.ms.eraseIdx kk).flatMap M2)
      rw[←ad.out,←HN.out];have h1:=G.out.kept (R3 wr b 0 (.slice X N f)) (.inr (C2 G.out r.out (by decide)));exact A1H (h1.kept (R3 _ b 1 (.slice Y N n)) (.inr (C2 h1 J (by decide)))) aa
     .show World.ownsRow _ B _ 1 _ (m.ms.eraseIdx kk).length _
      rw[←ad.out,←HN.out];have h1:=c.out.kept (R3 wr b 0 (.slice X N f)) (.inr (C2 c.out r.out (by decide)));exact A1H (h1.kept (R3 _ b 1 (.slice Y N n)) (.inr (C2 h1 J (by decide)))) aa
     .show r6 _ B _ ((m.ms.eraseIdx kk).map λx=>A0 x.t)
      rw[←ad.out];exact((aV.out.keep λu l hr=>hr.below L.out).keep λu l hr=>A0N (o:=0) (x:=.slice X N f) hr r.out (by decide)).keep λu l hr=>A0N hr J (by decide)
def A9c(s:B_)(w:W_)(e:Ending)(w':W_):Prop:=Below w.heap.size w w' /\
 ((∃t g cap,Q3 s=(0,0,some t)/\e=.returned (.tuple #[.slice (some ⟨g,0,none⟩) (A0 t).length cap,.int .i64 0,.int .i64 0])/\P1 w' w.heap.size (.slice (some ⟨g,0,none⟩) (A0 t).length cap) (A0 t)) \/
  (∃(c:Int)(k:Nat),Q3 s=(c,k,none)/\c≠0/\k<=200/\e=.returned (.tuple #[.slice none 0 0,.int .i64 k,.int .i64 c])))
theorem B6I(s:B_)(w:W_)(j:s.size<=9223372036854775807):Calls prog 61 #[.string s] w (A9c s w):=by
 refine(B6J s w j).mono ?_;rintro e w'⟨d,⟨f,a⟩|⟨f,t,a,i,c⟩|⟨f,t,g,cap,a,i,c,l⟩|⟨f,k,a,i,h⟩⟩
 .exact⟨d,.inr ⟨3,0,by unfold Q3;rw[if_pos f],by decide,by omega,a⟩⟩
 .refine⟨d,.inr ⟨3,0,?_,by decide,by omega,c⟩⟩
  unfold Q3;rw[if_neg (by omega),a];dsimp only;rw[if_pos rfl,if_neg (by omega)]
 .refine⟨d,.inl ⟨t,g,cap,?_,c,l⟩⟩
  unfold Q3;rw[if_neg (by omega),a];dsimp only;rw[if_pos rfl,if_pos i]
 .refine⟨d,.inr ⟨5,k,?_,by decide,by omega,h⟩⟩
  unfold Q3;rw[if_neg (by omega)];rcases a with a|⟨t,a,c⟩
  .rw[a]
  .rw[a]
   dsimp only;rw[if_neg c]
def B4a(r:Nat×Nat×Int):V_:=.tuple #[.int .i64 (r.1:Int),.int .i64 (r.2.1:Int),.int .i64 r.2.2]
theorem o9.form{B b:Nat}{m:SS}{AI AP:V_}{vs:List V_}{W:W_}(h:o9 B b m AI AP vs W):∃A cap c a,AI=.slice A m.ms.length cap/\AP=.slice c m.ms.length a:=by
 obtain⟨A,cap,f,_⟩:=A0v (Rd.of_own h.its);obtain⟨c,a,d,_⟩:=A1G h.pts;exact⟨A,cap,c,a,f,d⟩
theorem B9V(B b:Nat)(m:SS)(AI AP:V_)(vs:List V_)(s:B_)(w:W_)(h:o9 B b m AI AP vs w)(hs:s.size<=maxLen)(hl:m.last<1000000):
 Calls prog 36 #[.pointer (some ⟨b,0,none⟩),.string s] w (DTo (B4a (m.added s)) B b (m.add s) w):=by
 obtain⟨i0,aQ,aO,aN,aM⟩:=info_parts A4C;obtain⟨aL,am,al,ak,aj⟩:=info_parts A5Z;have D:=hid (B6I s w (by unfold maxLen at hs;omega));unfold A9c at D;have H:=hid h;obtain⟨A,cap,A2,C,rfl,rfl⟩:=h.form;have bj:=h.ok.len;have hlt:=h.lt;have bq:=h.hBw;unfold DTo B4a;have c0:w.cell? ⟨b,0,none⟩=some (.slice A m.ms.length cap):=h.blk.cell 0;cases hp:(Q3 s).2.2 with
 | none =>
   have ap:(Q3 s).1≠0:=λe=>by obtain⟨t,ht⟩:=A4U.1 e;rw[ht] at hp;cases hp
   have T:m.added s=(0,(Q3 s).2.1,(Q3 s).1):=by unfold SS.added;rw[if_pos ap]
   have hs':m.add s=m:=by unfold SS.add;rw[hp]
   rw[T,hs'];dsimp only;have HP:=hid hp;clear h hp T hs' ap c0;go_enter func36,ntmps36;go_wp2_with fail;refine D.out.mono ?_;rintro e w1⟨a,⟨t,g,O,i,_,_⟩|⟨c,k,i,hc,hk,rfl⟩⟩
   .have:=HP.out;rw[i] at this;cases this
   .have HQ:=hid i
    have n:=hid (H.out.below a);have HK:=hid (DK.of_below (b:=b) H.out.hBw a);have dc:(c !=0)=true:=by simpa using hc
    clear a i hc;go_wp2_with fail;go_ret3;exact⟨by rw[HQ.out];rfl,_,_,vs,n.out,HK.out⟩
 | some t =>
   obtain⟨_,_,br,bh,L⟩:=T5 hp;have h0:¬(Q3 s).1≠0:=by rw[L];simp
   have ad:=hid L;by_cases h12:m.ms.length=12
   .have p:¬m.ms.length<12:=by omega
    have T:m.added s=(0,0,3):=by unfold SS.added;rw[if_neg h0,if_neg p]
    have hs':m.add s=m:=by unfold SS.add;rw[hp];dsimp only;rw[if_neg p]
    rw[T,hs'];dsimp only;have aT:decide ((12:Int)<=(m.ms.length:Int))=true:=by rw[h12];rfl
    clear h hp T hs' h0 p L h12;go_enter func36,ntmps36;go_wp2_with fail;refine D.out.mono ?_;rintro e w1⟨a,⟨t',g,O,i,rfl,_⟩|⟨c,k,i,hc,hk,rfl⟩⟩
    .have n:=hid (H.out.below a)
     have HK:=hid (DK.of_below (b:=b) H.out.hBw a);have c0':w1.cell? ⟨b,0,none⟩=some (.slice A m.ms.length cap):=n.out.blk.cell 0;clear a i c0;go_wp2_with fail;go_ret3;exact⟨rfl,_,_,vs,n.out,HK.out⟩
    .rw[ad.out] at i;cases i
   .have p:m.ms.length<12:=by omega
    have T:m.added s=(m.last+1,0,0):=by unfold SS.added;rw[if_neg h0,if_pos p]
    have hs':m.add s={ m with ms:=m.ms++[⟨m.last+1,s,t⟩],last:=m.last+1 }:=by unfold SS.add;rw[hp];dsimp only;rw[if_pos p]
    have S:(m.add s).ok:=h.ok.add s;have aD:=hid S;have HS:=hid hs';rw[T];dsimp only;have aT:=df_ ((12:Int)<=(m.ms.length:Int));have bp:=h.lastb;have ae:=hid h.hB;clear h hp T hs' h0 p L h12 S;go_enter func36,ntmps36;go_wp2_with fail;refine D.out.mono ?_;rintro e w1⟨a,⟨t',g,O,i,rfl,ao⟩|⟨c,k,i,hc,hk,rfl⟩⟩
    .have ht:t'=t:=by rw[ad.out] at i;cases i;rfl
     subst ht;have n:=hid (H.out.below a);have bc:=hid (DK.of_below (b:=b) H.out.hBw a);have aB:=hid (ao.lower H.out.hBw);obtain⟨N,hN⟩:∃N,N=(A0 t').length:=⟨_,rfl⟩
     have HN:=hid hN;rw[←hN] at aB ⊢;have c0':w1.cell? ⟨b,0,none⟩=some (.slice A m.ms.length cap):=n.out.blk.cell 0;have c2:w1.cell? ⟨b,2,none⟩=some (.int .i64 m.last):=n.out.blk.cell 2;have z2:w1.frozen? ⟨b,2,none⟩=false:=n.out.blk.frozen 2;have av:=n.out.lt;clear a i c0 ao D hN;go_wp2_with fail
     have H2:Hid (o9 B b { m with last:=m.last+1 } (.slice A m.ms.length cap) (.slice A2 m.ms.length C) vs (w1.setCell ⟨b,2,none⟩ (.int .i64 ((m.last:Int)+1)))):=hid (by
      have:=n.out.put { m with last:=m.last+1 } rfl ⟨n.out.ok.len,n.out.ok.up,λx hx=>⟨(n.out.ok.pos x hx).1,Nat.le_succ_of_le (n.out.ok.pos x hx).2⟩,n.out.ok.read⟩ (by show m.last+1<=1000000;omega) 2 (.int .i64 ((m.last:Int)+1)) (by simp);exact this)
     have bb:Hid (DK B b w (w1.setCell ⟨b,2,none⟩ (.int .i64 ((m.last:Int)+1)))):=hid (bc.out.trans (DK.set ae.out w1 2 _));have aX:Hid (P1 (w1.setCell ⟨b,2,none⟩ (.int .i64 ((m.last:Int)+1))) B (.slice (some ⟨g,0,none⟩) N O) (A0 t')):=hid (A0N aB.out n.out.blk (by decide));generalize w1.setCell ⟨b,2,none⟩ (.int .i64 ((m.last:Int)+1))=w3 at *;have e0:w3.cell? ⟨b,0,none⟩=some (.slice A m.ms.length cap):=H2.out.blk.cell 0;have e2:w3.cell? ⟨b,2,none⟩=some (.int .i64 ((m.last:Int)+1)):=by have:=H2.out.blk.cell 2;simpa using this
     have au:=H2.out.lt;have V:=H2.out.hBw
     have aZ:Hid (∀(j:Nat)(u:V_),([.int .i64 ((m.last:Int)+1),.string s]:List V_)[j]?=some u ->
      (w3.alloc (.cells #[.int .i64 ((m.last:Int)+1),.string s] 53)).drew.cell? ((⟨w3.heap.size,0,none⟩:Addr).add j)=some u):=hid (by
      intro j u Z;rw[Z5,Nat.zero_add];have:=((J0.new w3 53 #[.int .i64 ((m.last:Int)+1),.string s]).drew).cell j;rw[this]
      simpa using Z)
     have aY:Hid (∀u∈([.int .i64 ((m.last:Int)+1),.string s]:List V_),u.oneCell'=true):=hid (by
      intro u Z;simp only[List.mem_cons,List.not_mem_nil,or_false] at Z;rcases Z with rfl|rfl <;> rfl)
     have ah:=hid (((Below.refl w3.heap.size w3).alloc (lr_ _) (.cells #[.int .i64 ((m.last:Int)+1),.string s] 53)).drew);have H4:=hid (H2.out.below ah.out);have aW:=hid (aX.out.below ah.out);have ba:=hid (bb.out.trans (DK.of_below V ah.out));have r:Hid (((w3.alloc (.cells #[.int .i64 ((m.last:Int)+1),.string s] 53)).drew).ownsRow B 53 2 (.slice A m.ms.length cap) m.ms.length (m.ms.flatMap M2)):=hid H4.out.its;clear c0' c2 z2
     go_region_law (refine step_append_lies _ rfl (.tmp 37) (.tmp 44) 41 rfl B 53 i0 _ 2 24 underlying41 aQ aO aN aM rfl (by decide) (.slice A m.ms.length cap) m.ms.length (m.ms.flatMap M2) ?a1 r.out ⟨w3.heap.size,0,none⟩ 1 1 [.int .i64 ((m.last:Int)+1),.string s] ?a2 rfl aZ.out aY.out ?a4 ?a5 ?a6 ?a7 _ rfl ?_;(case a1=>simp[Act.eval,Act.put]);(case a2=>simp[Act.eval,Act.put]);(case a4=>omega);(case a5=>unfold maxLen;omega);(case a6=>omega);(case a7=>simp;omega);intro X f Y R hg hat ar;have M:J0 Y b 44 _:=A2F H4.out.blk r.out hg (by decide);have o1:Y.cell? ⟨b,0,none⟩=some (.slice A m.ms.length cap):=M.cell 0;have f1:Y.frozen? ⟨b,0,none⟩=false:=M.frozen 0;have F:=hid M;have aC:=hid R;have P:=hid hg;clear M R hg hat ar)
     all_goals (
      have ag:=hid (F.out.set_ 0 (.slice (some ⟨X,0,none⟩) (m.ms.length+1) f));have be:=hid (aC.out.kept (R3 Y b 0 (.slice (some ⟨X,0,none⟩) (m.ms.length+1) f)) (.inr (C2 aC.out F.out (by decide))));have aa:=g9 H4.out.pts r.out P.out (by decide);have E:=hid (aa.kept (R3 Y b 0 (.slice (some ⟨X,0,none⟩) (m.ms.length+1) f)) (.inr (C2 aa F.out (by decide))));have aA:=hid ((H4.out.rows.keep λu l J=>A34 J r.out P.out (by decide)).keep λu l J=>A0N (o:=0) (x:=.slice (some ⟨X,0,none⟩) (m.ms.length+1) f) J F.out (by decide));have aV:=hid (A0N (o:=0) (x:=.slice (some ⟨X,0,none⟩) (m.ms.length+1) f) (A34 aW.out r.out P.out (by decide)) F.out (by decide));have a_:=hid ((ba.out.trans (DK.grown H4.out.hBw (.inl rfl) r.out P.out)).trans (DK.set ae.out Y 0 (.slice (some ⟨X,0,none⟩) (m.ms.length+1) f)));clear aa;generalize (Y.setCell ⟨b,0,none⟩ (.slice (some ⟨X,0,none⟩) (m.ms.length+1) f))=w6 at *;have bi:b<w6.heap.size:=J0.lt ag.out;have ay:=ae.out;have e1:w6.cell? ⟨b,1,none⟩=some (.slice A2 m.ms.length C):=by have:=ag.out.cell 1;simpa using this
      have aw:Below w6.heap.size w6 (w6.alloc (.cells #[.slice (some ⟨g,0,none⟩) N O] 73)):=ba_;have aG:=hid aw;clear aw e0 e2 o1 f1 au V av
      go_wp2_with (at_builtin;refine wpList_append_lies _ rfl (.tmp 52) (.tmp 54) _ rfl B 73 aL _ 1 24 underlying42 am al ak aj rfl (by omega) _ m.ms.length vs rfl (E.out.alloc _) ⟨w6.heap.size,0,none⟩ 1 1 [.slice (some ⟨g,0,none⟩) N O] rfl rfl (A3X _ _ _ _ rfl) (by intro u Z;simp at Z;subst Z;rfl) (by omega) (by unfold maxLen;omega) (by omega) (by simp;omega) _ rfl ?_;intro g8 q G y ab ax aq;have z:J0 G b 44 _:=A2F (ag.out.alloc _) (E.out.alloc _) ab (by decide);have o8:G.cell? ⟨b,1,none⟩=some (.slice A2 m.ms.length C):=(by have:=z.cell 1;simpa using this);have f8:G.frozen? ⟨b,1,none⟩=false:=z.frozen 1;have l8:G.cell? ⟨b,2,none⟩=some (.int .i64 ((m.last:Int)+1)):=(by have:=z.cell 2;simpa using this);have Q:=hid z;have aE:=hid y;have af:=hid ab;clear z y ab ax aq)
      go_ret3;have aF:=g9 (be.out.alloc (.cells #[.slice (some ⟨g,0,none⟩) N O] 73)) (E.out.alloc _) af.out (by decide)
      have d:o9 B b (m.add s) (.slice (some ⟨X,0,none⟩) (m.ms.length+1) f) (.slice (some ⟨g8,0,none⟩) (m.ms.length+1) q) (vs++[.slice (some ⟨g,0,none⟩) N O]) (G.setCell ⟨b,1,none⟩ (.slice (some ⟨g8,0,none⟩) (m.ms.length+1) q))/\DK B b w (G.setCell ⟨b,1,none⟩ (.slice (some ⟨g8,0,none⟩) (m.ms.length+1) q)):=by
       refine⟨?_,?_⟩
       .rw[HS.out] at aD ⊢
        refine⟨ay,?_,?_,?_,?_,aD.out,by show m.last+1<=1000000;omega⟩
        .have:=Q.out.set_ 1 (.slice (some ⟨g8,0,none⟩) (m.ms.length+1) q)
         simpa using this
        .have h1:=aF.kept (R3 G b 1 (.slice (some ⟨g8,0,none⟩) (m.ms.length+1) q)) (.inr (C2 aF Q.out (by decide)))
         simpa[M2] using h1
        .have h1:=aE.out.kept (R3 G b 1 (.slice (some ⟨g8,0,none⟩) (m.ms.length+1) q)) (.inr (C2 aE.out Q.out (by decide)))
         simpa using h1
        .have h1:r6 (w6.alloc (.cells #[.slice (some ⟨g,0,none⟩) N O] 73)) B (vs++[.slice (some ⟨g,0,none⟩) N O]) (m.ms.map (λx=>A0 x.t)++[A0 t']):=(aA.out.snoc aV.out).keep λu l J=>J.below aG.out
         have h2:=(h1.keep λu l J=>A34 J (E.out.alloc _) af.out (by decide)).keep λu l J=>A0N (o:=1) (x:=.slice (some ⟨g8,0,none⟩) (m.ms.length+1) q) J Q.out (by decide)
         simpa using h2
       .exact((a_.out.trans (DK.of_below (by omega) aG.out)).trans (DK.grown (by simp;omega) (.inr rfl) (E.out.alloc _) af.out)).trans (DK.set ay G 1 _)
      first
       | exact⟨rfl,⟨_,_,_,d.1⟩,d.2.bel,d.2.keep⟩
       | exact⟨rfl,_,_,_,d.1,d.2⟩)
    .rw[ad.out] at i;cases i
