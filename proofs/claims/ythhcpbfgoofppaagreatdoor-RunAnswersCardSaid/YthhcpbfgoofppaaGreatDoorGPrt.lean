import Derived.Test.YthhcpbfgoofppaaGreatDoorSynJ
import Derived.Shelf.RegionOpenPlain
import Derived.Lib.UnsafeStr
import Derived.Lib.AppendStr
set_option linter.unusedVariables false
set_option linter.unusedSimpArgs false
open Wf
set_option maxRecDepth 100000
set_option maxHeartbeats 64000000
open Go.Lib (hid)
open Go.Proofs.Tryz hiding parts
namespace Go.Proofs.YthhcpbfgoofppaaGreatDoor
open Go.RowKit Wf
structure WK (B b:Nat) (w w':W_):Prop where
 bel:Below B w w'
 keep:∀(i:Nat)(cs:Array V_) (t:TypeId),i≠b->t≠5->J0 w i t cs->J0 w' i t cs
theorem WK.refl(B b:Nat)(w:W_):WK B b w w:=⟨br_,λ_ _ _ _ _ h=>h⟩
theorem WK.trans{B b:Nat}{w c a:W_}(h:WK B b w c)(k:WK B b c a):WK B b w a:=⟨h.bel.trans k.bel,λi cs t f d g=>k.keep i cs t f d (h.keep i cs t f d g)⟩
theorem WK.of_below{B b:Nat}{w w':W_}(c:B<=w.heap.size)(h:Below w.heap.size w w'):WK B b w w':=⟨h.mono c,λ_ _ _ _ _ a=>a.kept h⟩
theorem WK.set{B b:Nat}(a:B<=b)(w:W_)(o:Nat)(u:V_):WK B b w (w.setCell ⟨b,o,none⟩ u):=⟨br_.setCell (p:=⟨b,o,none⟩) a u,λi cs t d _ c=>c.far (p:=⟨b,o,none⟩) d u⟩
theorem WK.grown{B b n:Nat}{w w':W_}{v:V_}{f:List V_}(o:B<=w.heap.size)(d:w.ownsRow B 5 1 v n f)(a:w.grownBy w' v.ownBlock):WK B b w w':=by
 refine⟨⟨a.os,a.tape,a.output,a.size,λi m=>a.block i (by omega) λe=>by have:=(d.lt i e.symm).1;omega⟩,λi cs t _ h c=>?_⟩;refine(a.block i c.lt λe=>?_).trans c;obtain⟨_,j⟩:=d;rcases j with ⟨rfl,_⟩|⟨g,cap,cur,rfl,_,hgg,_⟩
 .cases e
 .have:i=g:=Option.some.inj e
  subst this;have hb':w.heap[i]?=some (.cells cs t (0,0)):=c;rw[hb'] at hgg;injection hgg with hgg
  injection hgg with _ hgg _
  exact h hgg
theorem s8(W:W_)(g i:Nat)(u:V_):W.grownBy (W.setCell ⟨g,i,none⟩ u) (some g):=⟨rfl,rfl,rfl,by simp,λk _ a=>Below.heap_setCell W _ _ k (λe=>a (by rw[e]))⟩
def IsP(b:Nat)(p:V_):Prop:=p=.pointer none\/p=.pointer (some ⟨b,0,none⟩)
structure Wr (B b:Nat) (p rv:V_) (k:Nat) (l:List U_) (v:V_) (w:W_):Prop where
 hB:B<=b
 blk:J0 w b 131 #[p,v,rv,.int .i64 k]
 own:w.ownsRow B 5 1 v l.length (Lib.byteCells l)
 ne:v.ownBlock≠some b
 nil:l=[]->v=.slice none 0 0
section
variable {B b k:Nat} {p rv v:V_} {l:List U_} {w:W_}
theorem Wr.form(h:Wr B b p rv k l v w):∃A cap,v=.slice A l.length cap:=by
 rcases h.own.2 with ⟨hv,h0⟩|⟨g,cap,cur,hv,_⟩
 .exact⟨none,0,by rw[hv,h0]⟩
 .exact⟨_,_,hv⟩
theorem Wr.lt(h:Wr B b p rv k l v w):b<w.heap.size:=h.blk.lt
theorem Wr.below{w':W_}(h:Wr B b p rv k l v w)(a:Below w.heap.size w w'):Wr B b p rv k l v w' :=
 ⟨h.hB,h.blk.kept a,World.ownsRow.kept (row:=none) h.own ⟨a.os,a.tape,a.output,a.size,λi c _=>a.block i c⟩ (by cases hv:v.ownBlock <;> simp),h.ne,h.nil⟩
theorem Wr.set0(h:Wr B b p rv k l v w)(q:V_):Wr B b q rv k l v (w.setCell ⟨b,0,none⟩ q) :=
 ⟨h.hB,by have:=h.blk.set_ 0 q;simpa using this,h.own.kept (s8 w b 0 q) (by have:=h.ne;exact .inr this),h.ne,h.nil⟩
theorem Wr.set3(h:Wr B b p rv k l v w)(j:Nat):Wr B b p rv j l v (w.setCell ⟨b,3,none⟩ (.int .i64 j)) :=
 ⟨h.hB,by have:=h.blk.set_ 3 (.int .i64 j);simpa using this,h.own.kept (s8 w b 3 _) (by have:=h.ne;exact .inr this),h.ne,h.nil⟩
end
theorem B1P:∃j,prog.info? 32=some j/\j.size=2:=by
 have:(prog.info? 32).map (·.size)=some 2:=by kernel_rfl
 obtain⟨j,c,a⟩:=Option.map_eq_some_iff.1 this;exact⟨j,c,a⟩
theorem B6f:liesAt prog prog.depth 131 (4 / prog.cellsOf 131) 0 32 1=true:=by kernel_rfl
def B2D(B b:Nat)(rv:V_)(k:Nat)(l:List U_)(v:V_)(w:W_)(e:Ending)(w':W_):Prop :=
 e=.returned (.tuple #[])/\Wr B b (.pointer (some ⟨b,0,none⟩)) rv k l v w'/\WK B b w w'
theorem A4H(B b k:Nat)(p rv v:V_)(l:List U_)(w:W_)(h:Wr B b p rv k l v w)(f:IsP b p):
 Calls prog 14 #[.pointer (some ⟨b,0,none⟩)] w (B2D B b rv k l v w):=by
 obtain⟨j,d,c⟩:=B1P;rcases f with rfl|rfl
 .have i:w.cell? ⟨b,0,none⟩=some (.pointer none):=h.blk.cell 0
  have a:w.shape? b=some (131,4):=by have:=h.blk;unfold J0 at this;simp[World.shape?,this]
  have g:=h.blk.frozen 0;have H:=hid h;clear h;go_enter func14,ntmps14;go_wp2;rw[Lib.run_to_unsafe w ⟨b,0,none⟩ underlying29 underlying92 d (by rw[c];decide) a (Nat.zero_lt_succ 3)];simp only[Result.andThen];rw[Oper.upon_value];go_wp2;rw[run_callFunc_extern func43 (by kernel_rfl) (by kernel_rfl) (by kernel_rfl) (e:=Extern.AbiNoEscape.same) (by kernel_rfl)];rw[Lib.run_noEscape];simp only[Result.andThen];rw[Oper.upon_value];go_wp2;rw[Lib.run_from_unsafe w ⟨b,0,none⟩ underlying92 underlying29 d a B6f];simp only[Result.andThen];rw[Oper.upon_value];go_wp2
  go_end0
  exact⟨rfl,H.out.set0 _,WK.set H.out.hB w 0 _⟩
 .have i:w.cell? ⟨b,0,none⟩=some (.pointer (some ⟨b,0,none⟩)):=h.blk.cell 0
  have H:=hid h;clear h;go_enter func14,ntmps14;go_wp2;rw[Lib.run_neq_ptr_same w _ underlying29 d];go_wp2
  go_end0
  exact⟨rfl,H.out,WK.refl _ _ _⟩
theorem A2i:(prog.info? 5).map (λi=>(i.zero,i.size,i.bytes))=some (some (.int .u8 0),1,1):=by kernel_rfl
def A4p(a:V_)(B b:Nat)(rv:V_)(k:Nat)(l:List U_)(w:W_)(e:Ending)(w':W_):Prop :=
 e=.returned a/\∃c,Wr B b (.pointer (some ⟨b,0,none⟩)) rv k l c w'/\WK B b w w'
theorem A0i(B b k c:Nat)(Y:c<256)(p rv v:V_)(l:List U_)(w:W_)(h:Wr B b p rv k l v w)(O:IsP b p)(P:l.length<=100000000):
 Calls prog 105 #[.pointer (some ⟨b,0,none⟩),.int .u8 c] w (A4p .nilIface B b rv k (l++[UInt8.ofNat c]) w):=by
 obtain⟨V,X,E,D,C⟩:=info_parts A2i;have G:B<=w.heap.size:=by have:=h.hB;have:=h.lt;omega
 have q:=hid (A4H B b k p rv v l w h O);have s:Lib.byteCells (l++[UInt8.ofNat c])=Lib.byteCells l++[.int .u8 c]:=by simp[Lib.byteCells,Nat.mod_eq_of_lt Y]
 have M:=hid s;unfold B2D at q;clear h O s;go_enter func105,ntmps105;go_wp2_with fail;refine q.out.mono ?_;rintro e A⟨rfl,y,o⟩;obtain⟨z,f,rfl⟩:=y.form;have r:=hid y;have L:=hid o;have S:A.cell? ⟨b,1,none⟩=some (.slice z l.length f):=y.blk.cell 1;have F:B<=A.heap.size:=Nat.le_trans G o.bel.size;clear y o q
 go_wp2_with (at_builtin;refine wpList_append_own _ rfl _ _ 30 rfl B 5 V (.int .u8 0) 1 1 underlying30 X E D C rfl (by decide) _ _ _ rfl (r.out.own.alloc _) ⟨A.heap.size,0,none⟩ 1 1 [.int .u8 c] rfl rfl ?S ?c2 ?c3 ?c4 ?c5 ?_)
 case S =>
  intro j u t
  match j,t with
  | 0,t=>simp at t;subst t;simp[Addr.add]
 case c2=>intro u N;simp at N;subst N;rfl
 case c3=>unfold maxLen;omega
 case c4=>omega
 case c5=>simp;omega
 intro T m a d _
 have i:J0 m b 131 #[.pointer (some ⟨b,0,none⟩),.slice z l.length f,rv,.int .i64 k]:=by
  have:=r.out.blk;have hlt:=r.out.lt;refine(d.block b (by simp;omega) (λe=>r.out.ne e.symm)).trans ?_;exact(this.alloc _)
 have d0:m.cell? ⟨b,0,none⟩=some (.pointer (some ⟨b,0,none⟩)):=i.cell 0;have d1:m.cell? ⟨b,1,none⟩=some (.slice z l.length f):=i.cell 1;have Z:m.frozen? ⟨b,1,none⟩=false:=i.frozen 1
 obtain⟨g,cap,rfl⟩:∃g cap,T=.slice (some ⟨g,0,none⟩) (l.length+1) cap:=by
  rcases a.2 with ⟨_,h0⟩|⟨g,cap,cur,hv,_⟩
  .omega
  .exact⟨g,cap,hv⟩
 have n:(Value.slice (some ⟨g,0,none⟩) (l.length+1) cap).ownBlock≠some b:=λe=>by
  rcases a.2 with ⟨_,h0⟩|⟨g',cap',cur,hv,_,hgg,_⟩
  .omega
  .injection hv with hv1
   injection hv1 with hv1
   injection hv1 with hv1
   have e':g=b:=Option.some.inj e;rw[←hv1,e'] at hgg;have hb2':m.heap[b]?=some (.cells #[.pointer (some ⟨b,0,none⟩),.slice z l.length f,rv,.int .i64 k] 131 (0,0)):=i;rw[hb2'] at hgg;injection hgg with hgg
   injection hgg with _ hgg _
   exact absurd hgg (by decide)
 have R:=((L.out.trans (WK.of_below F (br_.alloc (lr_ _) (.cells #[.int .u8 c] 5)))).trans (WK.grown (b:=b) (by simp;omega) (r.out.own.alloc _) d)).trans (WK.set r.out.hB m 1 (.slice (some ⟨g,0,none⟩) (l.length+1) cap))
 have Q:Wr B b (.pointer (some ⟨b,0,none⟩)) rv k (l++[UInt8.ofNat c]) (.slice (some ⟨g,0,none⟩) (l.length+1) cap) (m.setCell ⟨b,1,none⟩ (.slice (some ⟨g,0,none⟩) (l.length+1) cap)) :=
  ⟨r.out.hB,by have:=i.set_ 1 (.slice (some ⟨g,0,none⟩) (l.length+1) cap);simpa using this,by
    have:=a.kept (s8 m b 1 (.slice (some ⟨g,0,none⟩) (l.length+1) cap)) (.inr n);rw[M.out,List.length_append];exact this,n,λh=>by simp at h⟩
 have J:=hid R;have H:=hid Q;clear R Q d a n i;go_wp2;go_ret;exact⟨rfl,_,H.out,J.out⟩
theorem B3Q(B b k c:Nat)(Z:c<256)(p rv v:V_)(l:List U_)(w:W_)(u:FrameMode)(h:Wr B b p rv k l v w)(O:IsP b p)(P:l.length<=100000000):
 CallsD prog 105 #[.pointer (some ⟨b,0,none⟩),.int .u8 c] u w (λe V w'=>V=u/\A4p .nilIface B b rv k (l++[UInt8.ofNat c]) w e w'):=by
 obtain⟨X,Y,E,D,C⟩:=info_parts A2i;have G:B<=w.heap.size:=by have:=h.hB;have:=h.lt;omega
 have q:=hid (A4H B b k p rv v l w h O);have s:Lib.byteCells (l++[UInt8.ofNat c])=Lib.byteCells l++[.int .u8 c]:=by simp[Lib.byteCells,Nat.mod_eq_of_lt Z]
 have M:=hid s;unfold B2D at q;clear h O s
 go_enter_d func105,ntmps105
 go_wp2_with fail;refine q.out.mono ?_;rintro e A⟨rfl,y,o⟩;obtain⟨z,f,rfl⟩:=y.form;have r:=hid y;have L:=hid o;have S:A.cell? ⟨b,1,none⟩=some (.slice z l.length f):=y.blk.cell 1;have F:B<=A.heap.size:=Nat.le_trans G o.bel.size;clear y o q
 go_wp2_with (at_builtin;refine wpList_append_own _ rfl _ _ 30 rfl B 5 X (.int .u8 0) 1 1 underlying30 Y E D C rfl (by decide) _ _ _ rfl (r.out.own.alloc _) ⟨A.heap.size,0,none⟩ 1 1 [.int .u8 c] rfl rfl ?S ?c2 ?c3 ?c4 ?c5 ?_)
 case S =>
  intro j u t
  match j,t with
  | 0,t=>simp at t;subst t;simp[Addr.add]
 case c2=>intro u N;simp at N;subst N;rfl
 case c3=>unfold maxLen;omega
 case c4=>omega
 case c5=>simp;omega
 intro T m a d _
 have i:J0 m b 131 #[.pointer (some ⟨b,0,none⟩),.slice z l.length f,rv,.int .i64 k]:=by
  have:=r.out.blk;have hlt:=r.out.lt;refine(d.block b (by simp;omega) (λe=>r.out.ne e.symm)).trans ?_;exact(this.alloc _)
 have d0:m.cell? ⟨b,0,none⟩=some (.pointer (some ⟨b,0,none⟩)):=i.cell 0;have d1:m.cell? ⟨b,1,none⟩=some (.slice z l.length f):=i.cell 1;have f1:m.frozen? ⟨b,1,none⟩=false:=i.frozen 1
 obtain⟨g,cap,rfl⟩:∃g cap,T=.slice (some ⟨g,0,none⟩) (l.length+1) cap:=by
  rcases a.2 with ⟨_,h0⟩|⟨g,cap,cur,hv,_⟩
  .omega
  .exact⟨g,cap,hv⟩
 have n:(Value.slice (some ⟨g,0,none⟩) (l.length+1) cap).ownBlock≠some b:=λe=>by
  rcases a.2 with ⟨_,h0⟩|⟨g',cap',cur,hv,_,hgg,_⟩
  .omega
  .injection hv with hv1
   injection hv1 with hv1
   injection hv1 with hv1
   have e':g=b:=Option.some.inj e;rw[←hv1,e'] at hgg;have hb2':m.heap[b]?=some (.cells #[.pointer (some ⟨b,0,none⟩),.slice z l.length f,rv,.int .i64 k] 131 (0,0)):=i;rw[hb2'] at hgg;injection hgg with hgg
   injection hgg with _ hgg _
   exact absurd hgg (by decide)
 have R:=((L.out.trans (WK.of_below F (br_.alloc (lr_ _) (.cells #[.int .u8 c] 5)))).trans (WK.grown (b:=b) (by simp;omega) (r.out.own.alloc _) d)).trans (WK.set r.out.hB m 1 (.slice (some ⟨g,0,none⟩) (l.length+1) cap))
 have Q:Wr B b (.pointer (some ⟨b,0,none⟩)) rv k (l++[UInt8.ofNat c]) (.slice (some ⟨g,0,none⟩) (l.length+1) cap) (m.setCell ⟨b,1,none⟩ (.slice (some ⟨g,0,none⟩) (l.length+1) cap)) :=
  ⟨r.out.hB,by have:=i.set_ 1 (.slice (some ⟨g,0,none⟩) (l.length+1) cap);simpa using this,by
    have:=a.kept (s8 m b 1 (.slice (some ⟨g,0,none⟩) (l.length+1) cap)) (.inr n);rw[M.out,List.length_append];exact this,n,λh=>by simp at h⟩
 have J:=hid R;have H:=hid Q;clear R Q d a n i;go_wp2;go_ret;exact⟨rfl,_,H.out,J.out⟩
theorem B7W(B b k:Nat)(s:B_)(P:0<s.size)(p rv v:V_)(l:List U_)(w:W_)(h:Wr B b p rv k l v w)(L:IsP b p)(M:l.length+s.size<=100000000):
 Calls prog 9 #[.pointer (some ⟨b,0,none⟩),.string s] w (A4p (.tuple #[.int .i64 s.size,.nilIface]) B b rv k (l++s.data.toList) w):=by
 obtain⟨R,S,A,z,y⟩:=info_parts A2i;have D:B<=w.heap.size:=by have:=h.hB;have:=h.lt;omega
 have n:=hid (A4H B b k p rv v l w h L);have q:Lib.byteCells (l++s.data.toList)=Lib.byteCells l++Lib.strCells s:=by simp[Lib.byteCells,Lib.strCells]
 have H:=hid q;unfold B2D at n;clear h L q;go_enter func9,ntmps9;go_wp2_with fail;refine n.out.mono ?_;rintro e J⟨rfl,r,m⟩;obtain⟨t,d,rfl⟩:=r.form;have o:=hid r;have G:=hid m;have Z:J.cell? ⟨b,1,none⟩=some (.slice t l.length d):=r.blk.cell 1;have C:B<=J.heap.size:=Nat.le_trans D m.bel.size;clear r m n
 go_wp2_with (at_builtin;refine Lib.wpList_append_own_string _ rfl _ _ 30 9 rfl B 5 R underlying30 underlying9 S A z y _ _ _ rfl o.out.own s rfl ?c3 ?c4 ?c5 ?_)
 case c3=>unfold maxLen;omega
 case c4=>omega
 case c5=>omega
 intro Q i a c _
 have f:J0 i b 131 #[.pointer (some ⟨b,0,none⟩),.slice t l.length d,rv,.int .i64 k]:=by
  have:=o.out.blk;have hlt:=o.out.lt;refine(c.block b (by omega) (λe=>o.out.ne e.symm)).trans ?_;exact this
 have Y:i.cell? ⟨b,0,none⟩=some (.pointer (some ⟨b,0,none⟩)):=f.cell 0;have X:i.cell? ⟨b,1,none⟩=some (.slice t l.length d):=f.cell 1;have V:i.frozen? ⟨b,1,none⟩=false:=f.frozen 1
 obtain⟨g,cap,rfl⟩:∃g cap,Q=.slice (some ⟨g,0,none⟩) (l.length+s.size) cap:=by
  rcases a.2 with ⟨_,P⟩|⟨g,cap,cur,hv,_⟩
  .omega
  .exact⟨g,cap,hv⟩
 have j:(Value.slice (some ⟨g,0,none⟩) (l.length+s.size) cap).ownBlock≠some b:=λe=>by
  rcases a.2 with ⟨_,P⟩|⟨g',cap',cur,hv,_,hgg,_⟩
  .omega
  .injection hv with hv1
   injection hv1 with hv1
   injection hv1 with hv1
   have e':g=b:=Option.some.inj e;rw[←hv1,e'] at hgg;have hb2':i.heap[b]?=some (.cells #[.pointer (some ⟨b,0,none⟩),.slice t l.length d,rv,.int .i64 k] 131 (0,0)):=f;rw[hb2'] at hgg;injection hgg with hgg
   injection hgg with _ hgg _
   exact absurd hgg (by decide)
 have O:=(G.out.trans (WK.grown (b:=b) C o.out.own c)).trans (WK.set o.out.hB i 1 (.slice (some ⟨g,0,none⟩) (l.length+s.size) cap))
 have N:Wr B b (.pointer (some ⟨b,0,none⟩)) rv k (l++s.data.toList) (.slice (some ⟨g,0,none⟩) (l.length+s.size) cap) (i.setCell ⟨b,1,none⟩ (.slice (some ⟨g,0,none⟩) (l.length+s.size) cap)) :=
  ⟨o.out.hB,by have:=f.set_ 1 (.slice (some ⟨g,0,none⟩) (l.length+s.size) cap);simpa using this,by
    have:=a.kept (s8 i b 1 (.slice (some ⟨g,0,none⟩) (l.length+s.size) cap)) (.inr j);rw[H.out,List.length_append,show s.data.toList.length=s.size by simp];exact this,j,λh=>by have T:=congrArg List.length h;rw[List.length_append,show s.data.toList.length=s.size by simp,List.length_nil] at T;omega⟩
 have F:=hid O;have E:=hid N;clear O N c a j f;go_wp2;go_ret2;exact⟨rfl,_,E.out,F.out⟩
theorem B7X(B b k:Nat)(p rv v:V_)(l:List U_)(w:W_)(h:Wr B b p rv k l v w):
 Calls prog 73 #[.pointer (some ⟨b,0,none⟩)] w (λe w'=>e=.returned (.int .i64 l.length)/\w=w'):=by
 obtain⟨c,a,rfl⟩:=h.form;have d:w.cell? ⟨b,1,none⟩=some (.slice c l.length a):=h.blk.cell 1;clear h;go_enter func73,ntmps73;go_wp2;go_ret;exact⟨rfl,rfl⟩
theorem B0k(B b k:Nat)(p rv v:V_)(l:List U_)(w:W_)(h:Wr B b p rv k l v w):
 Calls prog 11 #[.pointer (some ⟨b,0,none⟩)] w (λe w'=>e=.returned (.string ⟨l.toArray⟩)/\Below B w w'):=by
 by_cases hl:l=[]
 .have i:=h.nil hl
  subst hl;subst i;have A:w.drew.cell? ⟨b,1,none⟩=some (.slice none 0 0):=h.blk.cell 1;have s:∀(W:W_)(q:Option Addr),(Builtin.unsafeString_ #[78,3] 9 #[.pointer q,.int .i64 0]).run prog W=.ok (.string .empty) W:=λW q=>Lib.run_unsafeString_none W _ _ _ q
  have t:(Builtin.unsafeSliceData_ #[30] 78 #[.slice none 0 0]).run prog w.drew=.ok (.pointer none) w.drew:=rfl;clear h;go_enter func11,ntmps11;go_wp2;go_region
  all_goals (go_wp2;go_ret;exact⟨rfl,Below.drew (Below.refl B w)⟩)
 .have d:l.length≠0:=by simpa using hl
  obtain⟨g,cap,a,rfl,o,y,m,f,n,c⟩:∃g cap a,v=.slice (some ⟨g,0,none⟩) l.length cap/\B<=g/\w.heap[g]?=some (.cells a 5 (0,0))/\l.length<=cap/\cap<=maxLen/\a.size=cap*1/\a.toList.take (l.length*1)=Lib.byteCells l:=by
   rcases h.own.2 with ⟨_,hz⟩|⟨g,cap,a,i,r⟩
   .exact absurd hz d
   .exact⟨g,cap,a,i,r⟩
  have A:w.drew.cell? ⟨b,1,none⟩=some (.slice (some ⟨g,0,none⟩) l.length cap):=h.blk.cell 1
  have t:(Builtin.unsafeSliceData_ #[30] 78 #[.slice (some ⟨g,0,none⟩) l.length cap]).run prog w.drew=.ok (.pointer (some ⟨g,0,none⟩)) w.drew :=
   Lib.run_unsafeSliceData_row _ _ _ _ _ _ (by omega)
  have s:(Builtin.unsafeString_ #[78,3] 9 #[.pointer (some ⟨g,0,none⟩),.int .i64 l.length]).run prog w.drew=.ok (.string ⟨l.toArray⟩) (w.drew.freeze ⟨g,0,none⟩ l.length):=by
   refine Lib.run_unsafeString_row w.drew 78 3 9 5 underlying78 (by kernel_rfl) g a.size (by have hg':w.drew.heap[g]?=some (.cells a 5 (0,0)):=y;simp[World.shape?,hg']) l hl (by omega) (by unfold maxLen at f;omega) ?_;intro j x z;exact h.own.cells (g:=g) rfl j (.int .u8 x.toNat) (by simp[Lib.byteCells,z])
  clear h hl d n c m f y;go_enter func11,ntmps11;go_wp2;go_region
  all_goals (go_wp2;go_ret;exact⟨rfl,Lib.below_freeze (Below.drew (Below.refl B w)) (p:=⟨g,0,none⟩) o _⟩)
def A9N(q op:Nat)(a:Bool):Bool:=if op=2 then q !=4 else if op=4 then (q !=4 || !a) else if op=3 then (q !=4&&(q !=3 || !a)) else false
def opT:Rx->Nat
 | .byte _=>1
 | .empty=>2
 | .cat _ _=>3
 | .alt _ _=>4
 | .star _=>5
 | .plus _=>6
 | .opt _=>7
 | .bgn=>8
 | .fin=>9
theorem B5r(q:Nat)(a:Bool)(u:Rx):T7 q a u=A9N q (opT u) a:=by cases u <;> rfl
theorem B7o(q op:Nat)(f:Bool)(r:Bool)(d:r=A9N q op f)(w:W_):
 Calls prog 142 #[.int .i64 q,.int .i64 op,.bool f] w (λe w'=>e=.returned (.bool r)/\w=w'):=by
 have o:∀(b:Bool),(q==4)=b->((q:Int)==4)=b/\((q:Int) !=4)=!b:=λb h=>by
  have:((q:Int)==4)=b:=by rw[←h,Bool.eq_iff_iff];simp;omega
  exact⟨this,by rw[bne,this]⟩
 have s:∀(b:Bool),(q==3)=b->((q:Int)==3)=b/\((q:Int) !=3)=!b:=λb h=>by
  have:((q:Int)==3)=b:=by rw[←h,Bool.eq_iff_iff];simp;omega
  exact⟨this,by rw[bne,this]⟩
 obtain⟨g,a⟩:∃b,(q==4)=b:=⟨_,rfl⟩
 obtain⟨n,c⟩:∃b,(q==3)=b:=⟨_,rfl⟩
 obtain⟨i,t⟩:=o g a;obtain⟨j,m⟩:=s n c;clear o s;unfold A9N at d;rw[show(q !=4)=!g by rw[bne,a],show(q !=3)=!n by rw[bne,c]] at d;by_cases h2:op=2
 .subst h2
  rw[if_pos rfl] at d;clear a c i j m
  cases g <;> subst d <;> (
   go_enter func142,ntmps142;go_wp2;go_ret;exact⟨rfl,rfl⟩)
 .rw[if_neg h2] at d
  by_cases h4:op=4
  .subst h4
   rw[if_pos rfl] at d;clear a c i j m
   cases g <;> cases f <;> subst d <;> (
    go_enter func142,ntmps142;go_wp2;go_ret;exact⟨rfl,rfl⟩)
  .rw[if_neg h4] at d
   by_cases h3:op=3
   .subst h3
    rw[if_pos rfl] at d;clear a c i j
    cases g <;> cases n <;> cases f <;> subst d <;> (
     go_enter func142,ntmps142;go_wp2;go_ret;exact⟨rfl,rfl⟩)
   .rw[if_neg h3] at d
    subst d;have A:((op:Int)==2)=false:=by rw[beq_eq_false_iff_ne];omega
    have y:((op:Int)==4)=false:=by rw[beq_eq_false_iff_ne];omega
    have z:((op:Int)==3)=false:=by rw[beq_eq_false_iff_ne];omega
    clear a c i j m t h2 h3 h4;go_enter func142,ntmps142;go_wp2;go_ret;exact⟨rfl,rfl⟩
theorem A31(c:X4):(F6 c).length<=3000/\0<(F6 c).length:=by
 obtain⟨x,t,h,_⟩:=A79 (c:=c);refine⟨?_,by rw[h];simp⟩;unfold F6
 split
 .have:=A1P (R7 c 0);omega
 .split
  .simp
  .have:=B9 c 0
   simp;omega
theorem T6(b:Bool)(x:List U_):(C1 b x).length<=x.length+2:=by
 unfold C1
 split <;> simp
theorem P4(t:Rx):(F0 t).length<=3010*(A0 t).length:=by
 induction t with
 | byte c=>rw[F0];have:=(A31 c).1;simp[A0];omega
 | empty=>simp[F0]
 | bgn=>simp[F0,A0]
 | fin=>simp[F0,A0]
 | cat a b iha ihb =>
   rw[F0,List.length_append];have d:=T6 (T7 3 false a) (F0 a);have f:=T6 (T7 3 true b) (F0 b);simp[A0];omega
 | alt a b iha ihb =>
   rw[F0,List.length_append,List.length_cons];have d:=T6 (T7 4 false a) (F0 a);have f:=T6 (T7 4 true b) (F0 b);simp[A0];omega
 | star a ih=>rw[F0,List.length_append];have d:=T6 (T7 5 false a) (F0 a);simp[A0];omega
 | plus a ih=>rw[F0,List.length_append];have d:=T6 (T7 6 false a) (F0 a);simp[A0];omega
 | opt a ih=>rw[F0,List.length_append];have d:=T6 (T7 7 false a) (F0 a);simp[A0];omega
theorem B9v{l:List Nd}{i:Nat}{u:Rx}(h:At l i u):∃c,l[i]?=some ⟨(opT u:Int),c⟩:=by
 cases u with
 | byte c=>exact⟨_,h.byte⟩
 | empty=>exact⟨_,h.empty⟩
 | cat a b=>exact⟨_,h.cat.1⟩
 | alt a b=>exact⟨_,h.alt.1⟩
 | star a=>exact⟨_,h.star.1⟩
 | plus a=>exact⟨_,h.plus.1⟩
 | opt a=>exact⟨_,h.opt.1⟩
 | bgn=>exact⟨_,h.bgn⟩
 | fin=>exact⟨_,h.fin⟩
structure PE (B:Nat) (rv:V_) (l:List Nd) (w:W_):Prop where
 len:l.length<=60
 okc:∀n∈l,P5 n.cls
 row:∃nb off cap,rv=.slice (some ⟨nb,off,none⟩) l.length cap/\∀W,Below B w W->∀k n,l[k]?=some n ->
  W.cell? ⟨nb,off+k*5,none⟩=some (.int .i64 n.op)/\W.cell? ⟨nb,off+k*5+1,none⟩=some (.int .u64 (n.cls.1:Int))/\W.cell? ⟨nb,off+k*5+2,none⟩=some (.int .u64 (n.cls.2.1:Int)) /\
  W.cell? ⟨nb,off+k*5+3,none⟩=some (.int .u64 (n.cls.2.2.1:Int))/\W.cell? ⟨nb,off+k*5+4,none⟩=some (.int .u64 (n.cls.2.2.2:Int))
theorem PE.below{B:Nat}{rv:V_}{l:List Nd}{w w':W_}(h:PE B rv l w)(d:Below B w w'):PE B rv l w':=by
 obtain⟨m,j,c,a,cap,i,g⟩:=h;exact⟨m,j,c,a,cap,i,λW f=>g W (d.trans f)⟩
def V7(B b:Nat)(rv:V_)(k:Nat)(l:List U_)(w:W_)(e:Ending)(w':W_):Prop :=
 e=.returned (.tuple #[])/\∃a c,IsP b a/\Wr B b a rv k l c w'/\WK B b w w'
def A3q(B b:Nat)(rv:V_)(l:List Nd)(u:Rx)(i:Nat):Prop :=
 ∀(p v:V_)(a:List U_) (w:W_),PE B rv l w->IsP b p->Wr B b p rv i a v w->a.length+3010*(A0 u).length<=1000000 ->
  Calls prog 72 #[.pointer (some ⟨b,0,none⟩)] w (V7 B b rv (i+(A0 u).length) (a++F0 u) w)
def B78(B b:Nat)(rv:V_)(l:List Nd)(u:Rx)(i:Nat):Prop :=
 ∀(q:Nat)(c:Bool) (p v:V_) (a:List U_) (w:W_),PE B rv l w->IsP b p->Wr B b p rv i a v w->a.length+3010*(A0 u).length+2<=1000000 ->
  Calls prog 106 #[.pointer (some ⟨b,0,none⟩),.int .i64 q,.bool c] w (V7 B b rv (i+(A0 u).length) (a++C1 (T7 q c u) (F0 u)) w)
theorem A0f{B b:Nat}{rv:V_}{l:List Nd}{u:Rx}{i:Nat}(hu:At l i u)(hw:A3q B b rv l u i):B78 B b rv l u i:=by
 intro q m p v d w G hp h am;obtain⟨c,z⟩:=B9v hu;have ac:i<l.length:=(List.getElem?_eq_some_iff.1 z).1;have O:=G.len;have S:=hid G;obtain⟨_,_,E,a,cap,rfl,F⟩:=G;have HW:=hid hw;have HR:=hid h;have HP:=hid hp;obtain⟨op,s⟩:∃op,op=opT u:=⟨_,rfl⟩
 rw[←s] at z;have y:B<=w.heap.size:=by have:=h.hB;have:=h.lt;omega
 have X:Hid (∀w',Below w.heap.size w w'->w'.cell? ⟨b,2,none⟩=some (.slice (some ⟨E,a,none⟩) l.length cap)/\w'.cell? ⟨b,3,none⟩=some (.int .i64 i)/\w'.cell? ⟨E,a+i*5,none⟩=some (.int .i64 op)/\Below w.heap.size w w'):=hid λw' V =>
  ⟨(h.blk.kept V).cell 2,(h.blk.kept V).cell 3,(F w' (V.mono y) i _ z).1,V⟩
 have Q:T7 q m u=A9N q op m:=by rw[s];exact B5r q m u
 have j:Below w.heap.size w w.drew:=br_.drew;have k0:(0:Int)<=i:=by omega
 have k1:(i:Int)<l.length:=by omega
 unfold V7;unfold A3q V7 at HW;obtain⟨r,hr⟩:∃r,r=A9N q op m:=⟨_,rfl⟩
 rw[Q,←hr];have D:=hid λW=>B7o q op m r hr W
 have aq:=P4 u;clear z F hw h hp s Q hr hu O ac;cases r with
 | false =>
   rw[show C1 false (F0 u)=F0 u from rfl]
   go_enter_defers func106,ntmps106
   go_wp2_with fail
   go_region_held3 (λw'=>w'.cell? ⟨b,2,none⟩=some (.slice (some ⟨E,a,none⟩) l.length cap)/\w'.cell? ⟨b,3,none⟩=some (.int .i64 i)/\w'.cell? ⟨E,a+i*5,none⟩=some (.int .i64 op)/\Below w.heap.size w w')
    (exact X.out _ (by assumption))
    (first | (go_at_call 142;refine(D.out _).mono ?_;rintro e Y⟨rfl,rfl⟩))
   have g:=hid (S.out.below (j.mono y));have A:=hid (HR.out.below j);have C:=hid (WK.of_below (b:=b) y j);clear X D;go_wp2_with fail;refine(HW.out p v d _ g.out HP.out A.out (by omega)).mono ?_;rintro e T⟨rfl,p3,v3,o,n,t⟩;have H3:=hid (show ∃L Z,IsP b L/\Wr B b L (.slice (some ⟨E,a,none⟩) l.length cap) (i+(A0 u).length) (d++F0 u) Z T/\WK B b w T from⟨p3,v3,o,n,C.out.trans t⟩);clear o n t;go_wp2_with fail;refine⟨.tuple #[],?_,rfl,H3.out⟩;simp[results,results106]
 | true =>
   go_enter_defers func106,ntmps106
   go_wp2_with fail
   go_region_held3 (λw'=>w'.cell? ⟨b,2,none⟩=some (.slice (some ⟨E,a,none⟩) l.length cap)/\w'.cell? ⟨b,3,none⟩=some (.int .i64 i)/\w'.cell? ⟨E,a+i*5,none⟩=some (.int .i64 op)/\Below w.heap.size w w')
    (exact X.out _ (by assumption))
    (first | (go_at_call 142;refine(D.out _).mono ?_;rintro e Y⟨rfl,rfl⟩))
   have g:=hid (S.out.below (j.mono y));have A:=hid (HR.out.below j);have C:=hid (WK.of_below (b:=b) y j);have J:=hid (A0i B b i 40 (by decide) p _ v d _ A.out HP.out (by omega));unfold A4p at J;clear X D;go_wp2_with fail;refine J.out.mono ?_;rintro e Y⟨rfl,v2,N,H⟩;have R:=hid (HW.out (.pointer (some ⟨b,0,none⟩)) v2 (d++[40]) Y (g.out.below H.bel) (.inr rfl) N (by rw[List.length_append];simp;omega));have ag:=hid (C.out.trans H);clear N H J g A C;go_wp2_with fail;refine R.out.mono ?_;rintro e T⟨rfl,p3,v3,o,n,t⟩;have H3:=hid n;have ae:=hid o;have af:=hid (ag.out.trans t);clear o n t R;go_wp2_with fail;refine leaves_cons (f:=105) (args:=#[.pointer (some ⟨b,0,none⟩),.int .u8 41]) (by simp) (by simp[go_sem]) ?_;refine(B3Q B b (i+(A0 u).length) 41 (by decide) p3 _ v3 _ T _ H3.out ae.out (by simp only[List.length_append];simp;omega)).mono ?_;rintro e u' w4⟨rfl,rfl,v4,M,P⟩
   have H4:=hid (show ∃L Z,IsP b L/\Wr B b L (.slice (some ⟨E,a,none⟩) l.length cap) (i+(A0 u).length) (d++C1 true (F0 u)) Z w4/\WK B b w w4 from⟨_,v4,.inr rfl,by
    have e:d++C1 true (F0 u)=d++[40]++F0 u++[UInt8.ofNat 41]:=by simp[C1]
    rw[e];exact M,af.out.trans P⟩)
   clear M P;refine⟨.tuple #[],?_,rfl,H4.out⟩;simp[results,results106]
theorem A1x(b:Bool)(x:List U_):x.length<=(C1 b x).length:=by
 unfold C1
 split
 .simp;omega
 .exact lr_ _
theorem B36{B b:Nat}{rv:V_}{l:List Nd}:∀(u:Rx)(i:Nat),At l i u->A3q B b rv l u i:=by
 intro u
 induction u with
 | bgn =>
   intro i V;intro p v a w E hp d O;have q:=V.bgn;obtain⟨n,m,j,g,hz⟩:∃n m j g:Nat,(n,m,j,g)=zc:=⟨_,_,_,_,rfl⟩
   rw[←hz] at q;clear hz;have R:i<l.length:=(List.getElem?_eq_some_iff.1 q).1;have af:=E.len;have Z:=hid E;have HR:=hid d;have N:B<=w.heap.size:=by have:=d.hB;have:=d.lt;omega
   have HP:=hid hp;obtain⟨_,A,r,f,cap,rfl,z⟩:=E;obtain⟨n0,n1,n2,n3,n4⟩:=z w br_ i _ q;have am:=hid (A _ (List.mem_of_getElem? q));have r2:w.cell? ⟨b,2,none⟩=some (.slice (some ⟨r,f,none⟩) l.length cap):=d.blk.cell 2;have r3:w.cell? ⟨b,3,none⟩=some (.int .i64 i):=d.blk.cell 3;have z3:w.frozen? ⟨b,3,none⟩=false:=d.blk.frozen 3;have hlt:=d.lt;have ae:r<w.heap.size:=World.block_lt_of_cell? w _ n0;have k0:(0:Int)<=i:=by omega
   have k1:(i:Int)<l.length:=by omega
   have Q:w.heap.size≠b:=by omega
   have D:(w.setCell ⟨b,3,none⟩ (.int .i64 ((i:Int)+1))).heap.size=w.heap.size:=by simp
   have F:Below (w.setCell ⟨b,3,none⟩ (.int .i64 ((i:Int)+1))).heap.size (w.setCell ⟨b,3,none⟩ (.int .i64 ((i:Int)+1))) ((w.setCell ⟨b,3,none⟩ (.int .i64 ((i:Int)+1))).alloc (.cells #[.int .i64 8,.int .u64 n,.int .u64 m,.int .u64 j,.int .u64 g] 114)).drew:=ba_.drew
   have H:Hid (J0 ((w.setCell ⟨b,3,none⟩ (.int .i64 ((i:Int)+1))).alloc (.cells #[.int .i64 8,.int .u64 n,.int .u64 m,.int .u64 j,.int .u64 g] 114)).drew w.heap.size 114 #[.int .i64 8,.int .u64 n,.int .u64 m,.int .u64 j,.int .u64 g]):=hid (by
    have:=(J0.new (w.setCell ⟨b,3,none⟩ (.int .i64 ((i:Int)+1))) 114 #[.int .i64 8,.int .u64 n,.int .u64 m,.int .u64 j,.int .u64 g]).drew;rw[D] at this;exact this)
   have S:Hid (Wr B b p (.slice (some ⟨r,f,none⟩) l.length cap) (i+1) a v ((w.setCell ⟨b,3,none⟩ (.int .i64 ((i:Int)+1))).alloc (.cells #[.int .i64 8,.int .u64 n,.int .u64 m,.int .u64 j,.int .u64 g] 114)).drew):=hid (by
    have:=d.set3 (i+1);rw[show((i+1:Nat):Int)=(i:Int)+1 by omega] at this;exact this.below F)
   have L:Hid (WK B b w ((w.setCell ⟨b,3,none⟩ (.int .i64 ((i:Int)+1))).alloc (.cells #[.int .i64 8,.int .u64 n,.int .u64 m,.int .u64 j,.int .u64 g] 114)).drew):=hid ((WK.set d.hB w 3 _).trans (WK.of_below (by rw[D];exact N) F));have ap:w.heap.size<((w.setCell ⟨b,3,none⟩ (.int .i64 ((i:Int)+1))).alloc (.cells #[.int .i64 8,.int .u64 n,.int .u64 m,.int .u64 j,.int .u64 g] 114)).drew.heap.size:=H.out.lt;unfold V7;clear q R z A d hp F D;go_enter func72,ntmps72;go_wp2_with fail;go_region;go_wp2_with fail;generalize hw2:((w.setCell ⟨b,3,none⟩ (.int .i64 ((i:Int)+1))).alloc (.cells #[.int .i64 8,.int .u64 n,.int .u64 m,.int .u64 j,.int .u64 g] 114)).drew=w2 at *;clear hw2;have b0:w2.cell? ⟨w.heap.size,0,none⟩=some (.int .i64 8):=H.out.cell 0;refine(A0i B b (i+1) 94 (by decide) p _ v a w2 S.out HP.out (by omega)).mono ?_;rintro e w3⟨rfl,v3,J,t⟩;have H3:=hid (show ∃o C,IsP b o/\Wr B b o (.slice (some ⟨r,f,none⟩) l.length cap) (i+(A0 .bgn).length) (a++F0 .bgn) C w3/\WK B b w w3 from⟨_,v3,.inr rfl,by rw[F0];exact J,L.out.trans t⟩);clear J t;go_wp2_with fail
   go_end0
   exact⟨rfl,H3.out⟩
 | fin =>
   intro i V;intro p v a w E hp d O;have q:=V.fin;obtain⟨n,m,j,g,hz⟩:∃n m j g:Nat,(n,m,j,g)=zc:=⟨_,_,_,_,rfl⟩
   rw[←hz] at q;clear hz;have R:i<l.length:=(List.getElem?_eq_some_iff.1 q).1;have af:=E.len;have Z:=hid E;have HR:=hid d;have N:B<=w.heap.size:=by have:=d.hB;have:=d.lt;omega
   have HP:=hid hp;obtain⟨_,A,r,f,cap,rfl,z⟩:=E;obtain⟨n0,n1,n2,n3,n4⟩:=z w br_ i _ q;have am:=hid (A _ (List.mem_of_getElem? q));have r2:w.cell? ⟨b,2,none⟩=some (.slice (some ⟨r,f,none⟩) l.length cap):=d.blk.cell 2;have r3:w.cell? ⟨b,3,none⟩=some (.int .i64 i):=d.blk.cell 3;have z3:w.frozen? ⟨b,3,none⟩=false:=d.blk.frozen 3;have hlt:=d.lt;have ae:r<w.heap.size:=World.block_lt_of_cell? w _ n0;have k0:(0:Int)<=i:=by omega
   have k1:(i:Int)<l.length:=by omega
   have Q:w.heap.size≠b:=by omega
   have D:(w.setCell ⟨b,3,none⟩ (.int .i64 ((i:Int)+1))).heap.size=w.heap.size:=by simp
   have F:Below (w.setCell ⟨b,3,none⟩ (.int .i64 ((i:Int)+1))).heap.size (w.setCell ⟨b,3,none⟩ (.int .i64 ((i:Int)+1))) ((w.setCell ⟨b,3,none⟩ (.int .i64 ((i:Int)+1))).alloc (.cells #[.int .i64 9,.int .u64 n,.int .u64 m,.int .u64 j,.int .u64 g] 114)).drew:=ba_.drew
   have H:Hid (J0 ((w.setCell ⟨b,3,none⟩ (.int .i64 ((i:Int)+1))).alloc (.cells #[.int .i64 9,.int .u64 n,.int .u64 m,.int .u64 j,.int .u64 g] 114)).drew w.heap.size 114 #[.int .i64 9,.int .u64 n,.int .u64 m,.int .u64 j,.int .u64 g]):=hid (by
    have:=(J0.new (w.setCell ⟨b,3,none⟩ (.int .i64 ((i:Int)+1))) 114 #[.int .i64 9,.int .u64 n,.int .u64 m,.int .u64 j,.int .u64 g]).drew;rw[D] at this;exact this)
   have S:Hid (Wr B b p (.slice (some ⟨r,f,none⟩) l.length cap) (i+1) a v ((w.setCell ⟨b,3,none⟩ (.int .i64 ((i:Int)+1))).alloc (.cells #[.int .i64 9,.int .u64 n,.int .u64 m,.int .u64 j,.int .u64 g] 114)).drew):=hid (by
    have:=d.set3 (i+1);rw[show((i+1:Nat):Int)=(i:Int)+1 by omega] at this;exact this.below F)
   have L:Hid (WK B b w ((w.setCell ⟨b,3,none⟩ (.int .i64 ((i:Int)+1))).alloc (.cells #[.int .i64 9,.int .u64 n,.int .u64 m,.int .u64 j,.int .u64 g] 114)).drew):=hid ((WK.set d.hB w 3 _).trans (WK.of_below (by rw[D];exact N) F));have ap:w.heap.size<((w.setCell ⟨b,3,none⟩ (.int .i64 ((i:Int)+1))).alloc (.cells #[.int .i64 9,.int .u64 n,.int .u64 m,.int .u64 j,.int .u64 g] 114)).drew.heap.size:=H.out.lt;unfold V7;clear q R z A d hp F D;go_enter func72,ntmps72;go_wp2_with fail;go_region;go_wp2_with fail;generalize hw2:((w.setCell ⟨b,3,none⟩ (.int .i64 ((i:Int)+1))).alloc (.cells #[.int .i64 9,.int .u64 n,.int .u64 m,.int .u64 j,.int .u64 g] 114)).drew=w2 at *;clear hw2;have b0:w2.cell? ⟨w.heap.size,0,none⟩=some (.int .i64 9):=H.out.cell 0;refine(A0i B b (i+1) 36 (by decide) p _ v a w2 S.out HP.out (by omega)).mono ?_;rintro e w3⟨rfl,v3,J,t⟩;have H3:=hid (show ∃o C,IsP b o/\Wr B b o (.slice (some ⟨r,f,none⟩) l.length cap) (i+(A0 .fin).length) (a++F0 .fin) C w3/\WK B b w w3 from⟨_,v3,.inr rfl,by rw[F0];exact J,L.out.trans t⟩);clear J t;go_wp2_with fail
   go_end0
   exact⟨rfl,H3.out⟩
 | empty =>
   intro i V;intro p v a w E hp d O;have q:=V.empty;obtain⟨n,m,j,g,hz⟩:∃n m j g:Nat,(n,m,j,g)=zc:=⟨_,_,_,_,rfl⟩
   rw[←hz] at q;clear hz;have R:i<l.length:=(List.getElem?_eq_some_iff.1 q).1;have af:=E.len;have Z:=hid E;have HR:=hid d;have N:B<=w.heap.size:=by have:=d.hB;have:=d.lt;omega
   have HP:=hid hp;obtain⟨_,A,r,f,cap,rfl,z⟩:=E;obtain⟨n0,n1,n2,n3,n4⟩:=z w br_ i _ q;have am:=hid (A _ (List.mem_of_getElem? q));have r2:w.cell? ⟨b,2,none⟩=some (.slice (some ⟨r,f,none⟩) l.length cap):=d.blk.cell 2;have r3:w.cell? ⟨b,3,none⟩=some (.int .i64 i):=d.blk.cell 3;have z3:w.frozen? ⟨b,3,none⟩=false:=d.blk.frozen 3;have hlt:=d.lt;have ae:r<w.heap.size:=World.block_lt_of_cell? w _ n0;have k0:(0:Int)<=i:=by omega
   have k1:(i:Int)<l.length:=by omega
   have Q:w.heap.size≠b:=by omega
   have D:(w.setCell ⟨b,3,none⟩ (.int .i64 ((i:Int)+1))).heap.size=w.heap.size:=by simp
   have F:Below (w.setCell ⟨b,3,none⟩ (.int .i64 ((i:Int)+1))).heap.size (w.setCell ⟨b,3,none⟩ (.int .i64 ((i:Int)+1))) ((w.setCell ⟨b,3,none⟩ (.int .i64 ((i:Int)+1))).alloc (.cells #[.int .i64 2,.int .u64 n,.int .u64 m,.int .u64 j,.int .u64 g] 114)).drew:=ba_.drew
   have H:Hid (J0 ((w.setCell ⟨b,3,none⟩ (.int .i64 ((i:Int)+1))).alloc (.cells #[.int .i64 2,.int .u64 n,.int .u64 m,.int .u64 j,.int .u64 g] 114)).drew w.heap.size 114 #[.int .i64 2,.int .u64 n,.int .u64 m,.int .u64 j,.int .u64 g]):=hid (by
    have:=(J0.new (w.setCell ⟨b,3,none⟩ (.int .i64 ((i:Int)+1))) 114 #[.int .i64 2,.int .u64 n,.int .u64 m,.int .u64 j,.int .u64 g]).drew;rw[D] at this;exact this)
   have S:Hid (Wr B b p (.slice (some ⟨r,f,none⟩) l.length cap) (i+1) a v ((w.setCell ⟨b,3,none⟩ (.int .i64 ((i:Int)+1))).alloc (.cells #[.int .i64 2,.int .u64 n,.int .u64 m,.int .u64 j,.int .u64 g] 114)).drew):=hid (by
    have:=d.set3 (i+1);rw[show((i+1:Nat):Int)=(i:Int)+1 by omega] at this;exact this.below F)
   have L:Hid (WK B b w ((w.setCell ⟨b,3,none⟩ (.int .i64 ((i:Int)+1))).alloc (.cells #[.int .i64 2,.int .u64 n,.int .u64 m,.int .u64 j,.int .u64 g] 114)).drew):=hid ((WK.set d.hB w 3 _).trans (WK.of_below (by rw[D];exact N) F));have ap:w.heap.size<((w.setCell ⟨b,3,none⟩ (.int .i64 ((i:Int)+1))).alloc (.cells #[.int .i64 2,.int .u64 n,.int .u64 m,.int .u64 j,.int .u64 g] 114)).drew.heap.size:=H.out.lt;unfold V7;clear q R z A d hp F D;go_enter func72,ntmps72;go_wp2_with fail;go_region;go_wp2_with fail;generalize hw2:((w.setCell ⟨b,3,none⟩ (.int .i64 ((i:Int)+1))).alloc (.cells #[.int .i64 2,.int .u64 n,.int .u64 m,.int .u64 j,.int .u64 g] 114)).drew=w2 at *;clear hw2;have b0:w2.cell? ⟨w.heap.size,0,none⟩=some (.int .i64 2):=H.out.cell 0;have H3:=hid (show ∃o C,IsP b o/\Wr B b o (.slice (some ⟨r,f,none⟩) l.length cap) (i+(A0 .empty).length) (a++F0 .empty) C w2/\WK B b w w2 from⟨p,v,HP.out,by rw[F0,List.append_nil];exact S.out,L.out⟩)
   go_end0
   exact⟨rfl,H3.out⟩
 | byte c =>
   intro i V;obtain⟨n,m,j,g⟩:=c;intro p v a w E hp d O;have q:=V.byte;have R:i<l.length:=(List.getElem?_eq_some_iff.1 q).1;have af:=E.len;have Z:=hid E;have HR:=hid d;have N:B<=w.heap.size:=by have:=d.hB;have:=d.lt;omega
   have HP:=hid hp;obtain⟨_,A,r,f,cap,rfl,z⟩:=E;obtain⟨n0,n1,n2,n3,n4⟩:=z w br_ i _ q;have am:=hid (A _ (List.mem_of_getElem? q));have r2:w.cell? ⟨b,2,none⟩=some (.slice (some ⟨r,f,none⟩) l.length cap):=d.blk.cell 2;have r3:w.cell? ⟨b,3,none⟩=some (.int .i64 i):=d.blk.cell 3;have z3:w.frozen? ⟨b,3,none⟩=false:=d.blk.frozen 3;have hlt:=d.lt;have ae:r<w.heap.size:=World.block_lt_of_cell? w _ n0;have k0:(0:Int)<=i:=by omega
   have k1:(i:Int)<l.length:=by omega
   have Q:w.heap.size≠b:=by omega
   have D:(w.setCell ⟨b,3,none⟩ (.int .i64 ((i:Int)+1))).heap.size=w.heap.size:=by simp
   have F:Below (w.setCell ⟨b,3,none⟩ (.int .i64 ((i:Int)+1))).heap.size (w.setCell ⟨b,3,none⟩ (.int .i64 ((i:Int)+1))) ((w.setCell ⟨b,3,none⟩ (.int .i64 ((i:Int)+1))).alloc (.cells #[.int .i64 1,.int .u64 n,.int .u64 m,.int .u64 j,.int .u64 g] 114)).drew:=ba_.drew
   have H:Hid (J0 ((w.setCell ⟨b,3,none⟩ (.int .i64 ((i:Int)+1))).alloc (.cells #[.int .i64 1,.int .u64 n,.int .u64 m,.int .u64 j,.int .u64 g] 114)).drew w.heap.size 114 #[.int .i64 1,.int .u64 n,.int .u64 m,.int .u64 j,.int .u64 g]):=hid (by
    have:=(J0.new (w.setCell ⟨b,3,none⟩ (.int .i64 ((i:Int)+1))) 114 #[.int .i64 1,.int .u64 n,.int .u64 m,.int .u64 j,.int .u64 g]).drew;rw[D] at this;exact this)
   have S:Hid (Wr B b p (.slice (some ⟨r,f,none⟩) l.length cap) (i+1) a v ((w.setCell ⟨b,3,none⟩ (.int .i64 ((i:Int)+1))).alloc (.cells #[.int .i64 1,.int .u64 n,.int .u64 m,.int .u64 j,.int .u64 g] 114)).drew):=hid (by
    have:=d.set3 (i+1);rw[show((i+1:Nat):Int)=(i:Int)+1 by omega] at this;exact this.below F)
   have L:Hid (WK B b w ((w.setCell ⟨b,3,none⟩ (.int .i64 ((i:Int)+1))).alloc (.cells #[.int .i64 1,.int .u64 n,.int .u64 m,.int .u64 j,.int .u64 g] 114)).drew):=hid ((WK.set d.hB w 3 _).trans (WK.of_below (by rw[D];exact N) F));have ap:w.heap.size<((w.setCell ⟨b,3,none⟩ (.int .i64 ((i:Int)+1))).alloc (.cells #[.int .i64 1,.int .u64 n,.int .u64 m,.int .u64 j,.int .u64 g] 114)).drew.heap.size:=H.out.lt;unfold V7;clear q R z A d hp F D;go_enter func72,ntmps72;go_wp2_with fail;go_region;go_wp2_with fail;generalize hw2:((w.setCell ⟨b,3,none⟩ (.int .i64 ((i:Int)+1))).alloc (.cells #[.int .i64 1,.int .u64 n,.int .u64 m,.int .u64 j,.int .u64 g] 114)).drew=w2 at *;clear hw2;have b0:w2.cell? ⟨w.heap.size,0,none⟩=some (.int .i64 1):=H.out.cell 0
   have av:Hid (∀W,Hid (∃o C,IsP b o/\Wr B b o (.slice (some ⟨r,f,none⟩) l.length cap) (i+1) a C W/\WK B b w W/\J0 W w.heap.size 114 #[.int .i64 1,.int .u64 n,.int .u64 m,.int .u64 j,.int .u64 g])->(W.cell? ⟨w.heap.size,1,none⟩=some (.int .u64 n)/\W.cell? ⟨w.heap.size,2,none⟩=some (.int .u64 m)/\W.cell? ⟨w.heap.size,3,none⟩=some (.int .u64 j)/\W.cell? ⟨w.heap.size,4,none⟩=some (.int .u64 g))):=hid λW h=>by
    obtain⟨_,_,_,_,_,h⟩:=h.out;exact⟨h.cell 1,h.cell 2,h.cell 3,h.cell 4⟩
   have au:Hid (∀W,Hid (∃o C,IsP b o/\Wr B b o (.slice (some ⟨r,f,none⟩) l.length cap) (i+1) (a++F6 (n,m,j,g)) C W/\WK B b w W/\J0 W w.heap.size 114 #[.int .i64 1,.int .u64 n,.int .u64 m,.int .u64 j,.int .u64 g])->(W.cell? ⟨w.heap.size,1,none⟩=some (.int .u64 n)/\W.cell? ⟨w.heap.size,2,none⟩=some (.int .u64 m)/\W.cell? ⟨w.heap.size,3,none⟩=some (.int .u64 j)/\W.cell? ⟨w.heap.size,4,none⟩=some (.int .u64 g))):=hid λW h=>by
    obtain⟨_,_,_,_,_,h⟩:=h.out;exact⟨h.cell 1,h.cell 2,h.cell 3,h.cell 4⟩
   have bm:Hid (∀W,Hid (∃o C,IsP b o/\Wr B b o (.slice (some ⟨r,f,none⟩) l.length cap) (i+1) a C W/\WK B b w W/\J0 W w.heap.size 114 #[.int .i64 1,.int .u64 n,.int .u64 m,.int .u64 j,.int .u64 g])->Calls prog 104 #[.agg #[.int .u64 n,.int .u64 m,.int .u64 j,.int .u64 g]] W (λe W'=>∃s:B_,e=.returned (.string s)/\Hid (s.data.toList=F6 (n,m,j,g))/\Hid (∃o C,IsP b o/\Wr B b o (.slice (some ⟨r,f,none⟩) l.length cap) (i+1) a C W'/\WK B b w W'/\J0 W' w.heap.size 114 #[.int .i64 1,.int .u64 n,.int .u64 m,.int .u64 j,.int .u64 g]))):=hid λW h=>by
    obtain⟨o,C,Y,X,T,h4⟩:=h.out;refine(B6A n m j g W am.out).mono ?_;rintro e w'⟨s,he,hs,hb⟩;exact⟨s,he,hid hs,hid ⟨o,C,Y,X.below hb,T.trans (WK.of_below (Nat.le_trans N T.bel.size) hb),h4.kept hb⟩⟩
   have bk:Hid (∀W (s:B_),Hid (∃o C,IsP b o/\Wr B b o (.slice (some ⟨r,f,none⟩) l.length cap) (i+1) a C W/\WK B b w W/\J0 W w.heap.size 114 #[.int .i64 1,.int .u64 n,.int .u64 m,.int .u64 j,.int .u64 g])->Hid (s.data.toList=F6 (n,m,j,g))->Calls prog 9 #[.pointer (some ⟨b,0,none⟩),.string s] W (λe W'=>e=.returned (.tuple #[.int .i64 s.size,.nilIface])/\Hid (∃o C,IsP b o/\Wr B b o (.slice (some ⟨r,f,none⟩) l.length cap) (i+1) (a++F6 (n,m,j,g)) C W'/\WK B b w W'/\J0 W' w.heap.size 114 #[.int .i64 1,.int .u64 n,.int .u64 m,.int .u64 j,.int .u64 g]))):=hid λW s h hs=>by
    obtain⟨o,C,Y,X,T,h4⟩:=h.out;have bd:=A31 (n,m,j,g);rw[←hs.out,show s.data.toList.length=s.size by simp] at bd;refine(B7W B b (i+1) s bd.2 o _ C a W X Y (by omega)).mono ?_;rintro e w'⟨he,v3,J,t⟩;rw[hs.out] at J;exact⟨he,hid ⟨_,v3,.inr rfl,J,T.trans t,t.keep _ _ _ Q (by decide) h4⟩⟩
   have bt:Hid (∃o C,IsP b o/\Wr B b o (.slice (some ⟨r,f,none⟩) l.length cap) (i+1) a C w2.drew/\WK B b w w2.drew/\J0 w2.drew w.heap.size 114 #[.int .i64 1,.int .u64 n,.int .u64 m,.int .u64 j,.int .u64 g]):=hid ⟨p,v,HP.out,S.out.below (br_.drew),L.out.trans (WK.of_below (by omega) (br_.drew)),H.out.drew⟩
   go_region_held3 (λW=>(W.cell? ⟨w.heap.size,1,none⟩=some (.int .u64 n)/\W.cell? ⟨w.heap.size,2,none⟩=some (.int .u64 m)/\W.cell? ⟨w.heap.size,3,none⟩=some (.int .u64 j)/\W.cell? ⟨w.heap.size,4,none⟩=some (.int .u64 g)))
    (first | exact av.out _ (by assumption) | exact au.out _ (by assumption))
    (first
      | (go_at_call 104;refine(bm.out _ (by assumption)).mono ?_;rintro e w3⟨s3,rfl,br,bs⟩)
      | (go_at_call 9;refine(bk.out _ _ (by assumption) (by assumption)).mono ?_;rintro e w4⟨rfl,ar⟩))
   have H3:=hid (show ∃o C,IsP b o/\Wr B b o (.slice (some ⟨r,f,none⟩) l.length cap) (i+(A0 (.byte (n,m,j,g))).length) (a++F0 (.byte (n,m,j,g))) C w4/\WK B b w w4 from by
    obtain⟨o,C,Y,X,T,_⟩:=ar.out;exact⟨o,C,Y,by rw[F0];exact X,T⟩)
   go_wp2_with fail
   go_end0
   exact⟨rfl,H3.out⟩
 | cat x y ihx ihy =>
   intro i V;have ab:=A0f V.cat.2.1 (ihx _ V.cat.2.1);have aA:=A0f V.cat.2.2 (ihy _ V.cat.2.2);intro p v a w E hp d O;have q:=V.cat.1;obtain⟨n,m,j,g,hz⟩:∃n m j g:Nat,(n,m,j,g)=zc:=⟨_,_,_,_,rfl⟩
   rw[←hz] at q;clear hz;have R:i<l.length:=(List.getElem?_eq_some_iff.1 q).1;have af:=E.len;have Z:=hid E;have HR:=hid d;have N:B<=w.heap.size:=by have:=d.hB;have:=d.lt;omega
   have HP:=hid hp;obtain⟨_,A,r,f,cap,rfl,z⟩:=E;obtain⟨n0,n1,n2,n3,n4⟩:=z w br_ i _ q;have am:=hid (A _ (List.mem_of_getElem? q));have r2:w.cell? ⟨b,2,none⟩=some (.slice (some ⟨r,f,none⟩) l.length cap):=d.blk.cell 2;have r3:w.cell? ⟨b,3,none⟩=some (.int .i64 i):=d.blk.cell 3;have z3:w.frozen? ⟨b,3,none⟩=false:=d.blk.frozen 3;have hlt:=d.lt;have ae:r<w.heap.size:=World.block_lt_of_cell? w _ n0;have k0:(0:Int)<=i:=by omega
   have k1:(i:Int)<l.length:=by omega
   have Q:w.heap.size≠b:=by omega
   have D:(w.setCell ⟨b,3,none⟩ (.int .i64 ((i:Int)+1))).heap.size=w.heap.size:=by simp
   have F:Below (w.setCell ⟨b,3,none⟩ (.int .i64 ((i:Int)+1))).heap.size (w.setCell ⟨b,3,none⟩ (.int .i64 ((i:Int)+1))) ((w.setCell ⟨b,3,none⟩ (.int .i64 ((i:Int)+1))).alloc (.cells #[.int .i64 3,.int .u64 n,.int .u64 m,.int .u64 j,.int .u64 g] 114)).drew:=ba_.drew
   have H:Hid (J0 ((w.setCell ⟨b,3,none⟩ (.int .i64 ((i:Int)+1))).alloc (.cells #[.int .i64 3,.int .u64 n,.int .u64 m,.int .u64 j,.int .u64 g] 114)).drew w.heap.size 114 #[.int .i64 3,.int .u64 n,.int .u64 m,.int .u64 j,.int .u64 g]):=hid (by
    have:=(J0.new (w.setCell ⟨b,3,none⟩ (.int .i64 ((i:Int)+1))) 114 #[.int .i64 3,.int .u64 n,.int .u64 m,.int .u64 j,.int .u64 g]).drew;rw[D] at this;exact this)
   have S:Hid (Wr B b p (.slice (some ⟨r,f,none⟩) l.length cap) (i+1) a v ((w.setCell ⟨b,3,none⟩ (.int .i64 ((i:Int)+1))).alloc (.cells #[.int .i64 3,.int .u64 n,.int .u64 m,.int .u64 j,.int .u64 g] 114)).drew):=hid (by
    have:=d.set3 (i+1);rw[show((i+1:Nat):Int)=(i:Int)+1 by omega] at this;exact this.below F)
   have L:Hid (WK B b w ((w.setCell ⟨b,3,none⟩ (.int .i64 ((i:Int)+1))).alloc (.cells #[.int .i64 3,.int .u64 n,.int .u64 m,.int .u64 j,.int .u64 g] 114)).drew):=hid ((WK.set d.hB w 3 _).trans (WK.of_below (by rw[D];exact N) F));have ap:w.heap.size<((w.setCell ⟨b,3,none⟩ (.int .i64 ((i:Int)+1))).alloc (.cells #[.int .i64 3,.int .u64 n,.int .u64 m,.int .u64 j,.int .u64 g] 114)).drew.heap.size:=H.out.lt;unfold V7;clear q R z A d hp F D;go_enter func72,ntmps72;go_wp2_with fail;go_region;go_wp2_with fail;generalize hw2:((w.setCell ⟨b,3,none⟩ (.int .i64 ((i:Int)+1))).alloc (.cells #[.int .i64 3,.int .u64 n,.int .u64 m,.int .u64 j,.int .u64 g] 114)).drew=w2 at *;clear hw2;have b0:w2.cell? ⟨w.heap.size,0,none⟩=some (.int .i64 3):=H.out.cell 0;have M:(A0 (.cat x y)).length=1+(A0 x).length+(A0 y).length:=by simp[A0];omega
   have aj:=P4 x;have aW:=P4 y;have ak:=T6 (T7 3 false x) (F0 x);have aa:=A1x (T7 3 false x) (F0 x);have aY:a.length+3010*(A0 x).length+2<=1000000:=by omega
   have bi:a.length+(C1 (T7 3 false x) (F0 x)).length+1+3010*(A0 y).length+2<=1000000:=by omega
   clear M aj aW ak aa O;have P:Hid (∀(G:Bool)(p v:V_) (a:List U_) (W:W_),PE B (.slice (some ⟨r,f,none⟩) l.length cap) l W->IsP b p->Wr B b p (.slice (some ⟨r,f,none⟩) l.length cap) (i+1) a v W->a.length+3010*(A0 x).length+2<=1000000->Calls prog 106 #[.pointer (some ⟨b,0,none⟩),.int .i64 3,.bool G] W (V7 B b (.slice (some ⟨r,f,none⟩) l.length cap) (i+1+(A0 x).length) (a++C1 (T7 3 G x) (F0 x)) W)):=hid λG p v a W Y X T h4=>ab 3 G p v a W Y X T h4
   unfold V7 at P;have aE:Hid (∀(G:Bool)(p v:V_) (a:List U_) (W:W_),PE B (.slice (some ⟨r,f,none⟩) l.length cap) l W->IsP b p->Wr B b p (.slice (some ⟨r,f,none⟩) l.length cap) (i+1+(A0 x).length) a v W->a.length+3010*(A0 y).length+2<=1000000->Calls prog 106 #[.pointer (some ⟨b,0,none⟩),.int .i64 3,.bool G] W (V7 B b (.slice (some ⟨r,f,none⟩) l.length cap) (i+1+(A0 x).length+(A0 y).length) (a++C1 (T7 3 G y) (F0 y)) W)):=hid λG p v a W Y X T h4=>aA 3 G p v a W Y X T h4
   unfold V7 at aE;clear ab aA;refine(P.out false p v a w2 (Z.out.below L.out.bel) HP.out S.out aY).mono ?_;rintro e w3⟨rfl,p3,v3,ac,J,t⟩;have a_:=hid ac;have aZ:=hid J;have aK:=hid (L.out.trans t);have aJ:=hid (t.keep _ _ _ Q (by decide) H.out);have q0:w3.cell? ⟨w.heap.size,0,none⟩=some (.int .i64 3):=aJ.out.cell 0;clear ac J t P;go_wp2_with fail;refine(aE.out true p3 v3 (a++C1 (T7 3 false x) (F0 x)) w3 (Z.out.below aK.out.bel) a_.out aZ.out (by simp only[List.length_append,List.length_singleton];omega)).mono ?_;rintro e w5⟨rfl,p5,v5,aB,az,aC⟩
   have H5:=hid (show ∃o C,IsP b o/\Wr B b o (.slice (some ⟨r,f,none⟩) l.length cap) (i+(A0 (.cat x y)).length) (a++F0 (.cat x y)) C w5/\WK B b w w5 from⟨p5,v5,aB,by
    have e1:i+(A0 (.cat x y)).length=i+1+(A0 x).length+(A0 y).length:=by simp[A0];omega
    have e2:a++F0 (.cat x y)=(a++C1 (T7 3 false x) (F0 x))++C1 (T7 3 true y) (F0 y):=by rw[F0];simp
    rw[e1,e2];exact az,aK.out.trans aC⟩)
   clear aB az aC;go_wp2_with fail
   go_end0
   exact⟨rfl,H5.out⟩
 | alt x y ihx ihy =>
   intro i V;have ab:=A0f V.alt.2.1 (ihx _ V.alt.2.1);have aA:=A0f V.alt.2.2 (ihy _ V.alt.2.2);intro p v a w E hp d O;have q:=V.alt.1;obtain⟨n,m,j,g,hz⟩:∃n m j g:Nat,(n,m,j,g)=zc:=⟨_,_,_,_,rfl⟩
   rw[←hz] at q;clear hz;have R:i<l.length:=(List.getElem?_eq_some_iff.1 q).1;have af:=E.len;have Z:=hid E;have HR:=hid d;have N:B<=w.heap.size:=by have:=d.hB;have:=d.lt;omega
   have HP:=hid hp;obtain⟨_,A,r,f,cap,rfl,z⟩:=E;obtain⟨n0,n1,n2,n3,n4⟩:=z w br_ i _ q;have am:=hid (A _ (List.mem_of_getElem? q));have r2:w.cell? ⟨b,2,none⟩=some (.slice (some ⟨r,f,none⟩) l.length cap):=d.blk.cell 2;have r3:w.cell? ⟨b,3,none⟩=some (.int .i64 i):=d.blk.cell 3;have z3:w.frozen? ⟨b,3,none⟩=false:=d.blk.frozen 3;have hlt:=d.lt;have ae:r<w.heap.size:=World.block_lt_of_cell? w _ n0;have k0:(0:Int)<=i:=by omega
   have k1:(i:Int)<l.length:=by omega
   have Q:w.heap.size≠b:=by omega
   have D:(w.setCell ⟨b,3,none⟩ (.int .i64 ((i:Int)+1))).heap.size=w.heap.size:=by simp
   have F:Below (w.setCell ⟨b,3,none⟩ (.int .i64 ((i:Int)+1))).heap.size (w.setCell ⟨b,3,none⟩ (.int .i64 ((i:Int)+1))) ((w.setCell ⟨b,3,none⟩ (.int .i64 ((i:Int)+1))).alloc (.cells #[.int .i64 4,.int .u64 n,.int .u64 m,.int .u64 j,.int .u64 g] 114)).drew:=ba_.drew
   have H:Hid (J0 ((w.setCell ⟨b,3,none⟩ (.int .i64 ((i:Int)+1))).alloc (.cells #[.int .i64 4,.int .u64 n,.int .u64 m,.int .u64 j,.int .u64 g] 114)).drew w.heap.size 114 #[.int .i64 4,.int .u64 n,.int .u64 m,.int .u64 j,.int .u64 g]):=hid (by
    have:=(J0.new (w.setCell ⟨b,3,none⟩ (.int .i64 ((i:Int)+1))) 114 #[.int .i64 4,.int .u64 n,.int .u64 m,.int .u64 j,.int .u64 g]).drew;rw[D] at this;exact this)
   have S:Hid (Wr B b p (.slice (some ⟨r,f,none⟩) l.length cap) (i+1) a v ((w.setCell ⟨b,3,none⟩ (.int .i64 ((i:Int)+1))).alloc (.cells #[.int .i64 4,.int .u64 n,.int .u64 m,.int .u64 j,.int .u64 g] 114)).drew):=hid (by
    have:=d.set3 (i+1);rw[show((i+1:Nat):Int)=(i:Int)+1 by omega] at this;exact this.below F)
   have L:Hid (WK B b w ((w.setCell ⟨b,3,none⟩ (.int .i64 ((i:Int)+1))).alloc (.cells #[.int .i64 4,.int .u64 n,.int .u64 m,.int .u64 j,.int .u64 g] 114)).drew):=hid ((WK.set d.hB w 3 _).trans (WK.of_below (by rw[D];exact N) F));have ap:w.heap.size<((w.setCell ⟨b,3,none⟩ (.int .i64 ((i:Int)+1))).alloc (.cells #[.int .i64 4,.int .u64 n,.int .u64 m,.int .u64 j,.int .u64 g] 114)).drew.heap.size:=H.out.lt;unfold V7;clear q R z A d hp F D;go_enter func72,ntmps72;go_wp2_with fail;go_region;go_wp2_with fail;generalize hw2:((w.setCell ⟨b,3,none⟩ (.int .i64 ((i:Int)+1))).alloc (.cells #[.int .i64 4,.int .u64 n,.int .u64 m,.int .u64 j,.int .u64 g] 114)).drew=w2 at *;clear hw2;have b0:w2.cell? ⟨w.heap.size,0,none⟩=some (.int .i64 4):=H.out.cell 0;have M:(A0 (.alt x y)).length=1+(A0 x).length+(A0 y).length:=by simp[A0];omega
   have aj:=P4 x;have aW:=P4 y;have ak:=T6 (T7 4 false x) (F0 x);have aa:=A1x (T7 4 false x) (F0 x);have aY:a.length+3010*(A0 x).length+2<=1000000:=by omega
   have bi:a.length+(C1 (T7 4 false x) (F0 x)).length+1+3010*(A0 y).length+2<=1000000:=by omega
   clear M aj aW ak aa O;have P:Hid (∀(G:Bool)(p v:V_) (a:List U_) (W:W_),PE B (.slice (some ⟨r,f,none⟩) l.length cap) l W->IsP b p->Wr B b p (.slice (some ⟨r,f,none⟩) l.length cap) (i+1) a v W->a.length+3010*(A0 x).length+2<=1000000->Calls prog 106 #[.pointer (some ⟨b,0,none⟩),.int .i64 4,.bool G] W (V7 B b (.slice (some ⟨r,f,none⟩) l.length cap) (i+1+(A0 x).length) (a++C1 (T7 4 G x) (F0 x)) W)):=hid λG p v a W Y X T h4=>ab 4 G p v a W Y X T h4
   unfold V7 at P;have aE:Hid (∀(G:Bool)(p v:V_) (a:List U_) (W:W_),PE B (.slice (some ⟨r,f,none⟩) l.length cap) l W->IsP b p->Wr B b p (.slice (some ⟨r,f,none⟩) l.length cap) (i+1+(A0 x).length) a v W->a.length+3010*(A0 y).length+2<=1000000->Calls prog 106 #[.pointer (some ⟨b,0,none⟩),.int .i64 4,.bool G] W (V7 B b (.slice (some ⟨r,f,none⟩) l.length cap) (i+1+(A0 x).length+(A0 y).length) (a++C1 (T7 4 G y) (F0 y)) W)):=hid λG p v a W Y X T h4=>aA 4 G p v a W Y X T h4
   unfold V7 at aE;clear ab aA;refine(P.out false p v a w2 (Z.out.below L.out.bel) HP.out S.out aY).mono ?_;rintro e w3⟨rfl,p3,v3,ac,J,t⟩;have a_:=hid ac;have aZ:=hid J;have aK:=hid (L.out.trans t);have aJ:=hid (t.keep _ _ _ Q (by decide) H.out);have q0:w3.cell? ⟨w.heap.size,0,none⟩=some (.int .i64 4):=aJ.out.cell 0;clear ac J t P;go_wp2_with fail;refine(A0i B b _ 124 (by decide) p3 _ v3 _ w3 aZ.out a_.out (by simp only[List.length_append];omega)).mono ?_;rintro e w4⟨rfl,v4,bc,aX⟩;have bl:=hid bc;have be:=hid (aK.out.trans aX);have bo:=hid (aX.keep _ _ _ Q (by decide) aJ.out);have s0:w4.cell? ⟨w.heap.size,0,none⟩=some (.int .i64 4):=bo.out.cell 0;have bn:Hid (IsP b (.pointer (some ⟨b,0,none⟩))):=hid (.inr rfl);clear bc aX;go_wp2_with fail;refine(aE.out true (.pointer (some ⟨b,0,none⟩)) v4 (a++C1 (T7 4 false x) (F0 x)++[124]) w4 (Z.out.below be.out.bel) bn.out bl.out (by simp only[List.length_append,List.length_singleton];omega)).mono ?_;rintro e w5⟨rfl,p5,v5,aB,az,aC⟩
   have H5:=hid (show ∃o C,IsP b o/\Wr B b o (.slice (some ⟨r,f,none⟩) l.length cap) (i+(A0 (.alt x y)).length) (a++F0 (.alt x y)) C w5/\WK B b w w5 from⟨p5,v5,aB,by
    have e1:i+(A0 (.alt x y)).length=i+1+(A0 x).length+(A0 y).length:=by simp[A0];omega
    have e2:a++F0 (.alt x y)=(a++C1 (T7 4 false x) (F0 x)++[124])++C1 (T7 4 true y) (F0 y):=by rw[F0];simp
    rw[e1,e2];exact az,be.out.trans aC⟩)
   clear aB az aC;go_wp2_with fail
   go_end0
   exact⟨rfl,H5.out⟩
 | star x ihx =>
   intro i V;have ab:=A0f V.star.2 (ihx _ V.star.2);intro p v a w E hp d O;have q:=V.star.1;obtain⟨n,m,j,g,hz⟩:∃n m j g:Nat,(n,m,j,g)=zc:=⟨_,_,_,_,rfl⟩
   rw[←hz] at q;clear hz;have R:i<l.length:=(List.getElem?_eq_some_iff.1 q).1;have af:=E.len;have Z:=hid E;have HR:=hid d;have N:B<=w.heap.size:=by have:=d.hB;have:=d.lt;omega
   have HP:=hid hp;obtain⟨_,A,r,f,cap,rfl,z⟩:=E;obtain⟨n0,n1,n2,n3,n4⟩:=z w br_ i _ q;have am:=hid (A _ (List.mem_of_getElem? q));have r2:w.cell? ⟨b,2,none⟩=some (.slice (some ⟨r,f,none⟩) l.length cap):=d.blk.cell 2;have r3:w.cell? ⟨b,3,none⟩=some (.int .i64 i):=d.blk.cell 3;have z3:w.frozen? ⟨b,3,none⟩=false:=d.blk.frozen 3;have hlt:=d.lt;have ae:r<w.heap.size:=World.block_lt_of_cell? w _ n0;have k0:(0:Int)<=i:=by omega
   have k1:(i:Int)<l.length:=by omega
   have Q:w.heap.size≠b:=by omega
   have D:(w.setCell ⟨b,3,none⟩ (.int .i64 ((i:Int)+1))).heap.size=w.heap.size:=by simp
   have F:Below (w.setCell ⟨b,3,none⟩ (.int .i64 ((i:Int)+1))).heap.size (w.setCell ⟨b,3,none⟩ (.int .i64 ((i:Int)+1))) ((w.setCell ⟨b,3,none⟩ (.int .i64 ((i:Int)+1))).alloc (.cells #[.int .i64 5,.int .u64 n,.int .u64 m,.int .u64 j,.int .u64 g] 114)).drew:=ba_.drew
   have H:Hid (J0 ((w.setCell ⟨b,3,none⟩ (.int .i64 ((i:Int)+1))).alloc (.cells #[.int .i64 5,.int .u64 n,.int .u64 m,.int .u64 j,.int .u64 g] 114)).drew w.heap.size 114 #[.int .i64 5,.int .u64 n,.int .u64 m,.int .u64 j,.int .u64 g]):=hid (by
    have:=(J0.new (w.setCell ⟨b,3,none⟩ (.int .i64 ((i:Int)+1))) 114 #[.int .i64 5,.int .u64 n,.int .u64 m,.int .u64 j,.int .u64 g]).drew;rw[D] at this;exact this)
   have S:Hid (Wr B b p (.slice (some ⟨r,f,none⟩) l.length cap) (i+1) a v ((w.setCell ⟨b,3,none⟩ (.int .i64 ((i:Int)+1))).alloc (.cells #[.int .i64 5,.int .u64 n,.int .u64 m,.int .u64 j,.int .u64 g] 114)).drew):=hid (by
    have:=d.set3 (i+1);rw[show((i+1:Nat):Int)=(i:Int)+1 by omega] at this;exact this.below F)
   have L:Hid (WK B b w ((w.setCell ⟨b,3,none⟩ (.int .i64 ((i:Int)+1))).alloc (.cells #[.int .i64 5,.int .u64 n,.int .u64 m,.int .u64 j,.int .u64 g] 114)).drew):=hid ((WK.set d.hB w 3 _).trans (WK.of_below (by rw[D];exact N) F));have ap:w.heap.size<((w.setCell ⟨b,3,none⟩ (.int .i64 ((i:Int)+1))).alloc (.cells #[.int .i64 5,.int .u64 n,.int .u64 m,.int .u64 j,.int .u64 g] 114)).drew.heap.size:=H.out.lt;unfold V7;clear q R z A d hp F D;go_enter func72,ntmps72;go_wp2_with fail;go_region;go_wp2_with fail;generalize hw2:((w.setCell ⟨b,3,none⟩ (.int .i64 ((i:Int)+1))).alloc (.cells #[.int .i64 5,.int .u64 n,.int .u64 m,.int .u64 j,.int .u64 g] 114)).drew=w2 at *;clear hw2;have b0:w2.cell? ⟨w.heap.size,0,none⟩=some (.int .i64 5):=H.out.cell 0;have M:(A0 (.star x)).length=1+(A0 x).length:=by simp[A0];omega
   have aj:=P4 x;have ak:=T6 (T7 5 false x) (F0 x);have aa:=A1x (T7 5 false x) (F0 x);have ay:a.length+3010*(A0 x).length+2<=1000000:=by omega
   have bb:a.length+(C1 (T7 5 false x) (F0 x)).length<=2000000:=by omega
   clear M aj ak aa O;have P:Hid (∀(G:Bool)(p v:V_) (a:List U_) (W:W_),PE B (.slice (some ⟨r,f,none⟩) l.length cap) l W->IsP b p->Wr B b p (.slice (some ⟨r,f,none⟩) l.length cap) (i+1) a v W->a.length+3010*(A0 x).length+2<=1000000->Calls prog 106 #[.pointer (some ⟨b,0,none⟩),.int .i64 5,.bool G] W (V7 B b (.slice (some ⟨r,f,none⟩) l.length cap) (i+1+(A0 x).length) (a++C1 (T7 5 G x) (F0 x)) W)):=hid λG p v a W Y X T h4=>ab 5 G p v a W Y X T h4
   unfold V7 at P;clear ab;refine(P.out false p v a w2 (Z.out.below L.out.bel) HP.out S.out ay).mono ?_;rintro e w3⟨rfl,p3,v3,ac,J,t⟩;have bf:Hid (∃o C,IsP b o/\Wr B b o (.slice (some ⟨r,f,none⟩) l.length cap) (i+1+(A0 x).length) (a++C1 (T7 5 false x) (F0 x)) C w3.drew/\WK B b w w3.drew/\J0 w3.drew w.heap.size 114 #[.int .i64 5,.int .u64 n,.int .u64 m,.int .u64 j,.int .u64 g]):=hid ⟨p3,v3,ac,J.below (br_.drew),(L.out.trans t).trans (WK.of_below (Nat.le_trans N (L.out.trans t).bel.size) (br_.drew)),(t.keep _ _ _ Q (by decide) H.out).drew⟩;clear ac J t P
   have av:Hid (∀W,Hid (∃o C,IsP b o/\Wr B b o (.slice (some ⟨r,f,none⟩) l.length cap) (i+1+(A0 x).length) (a++C1 (T7 5 false x) (F0 x)) C W/\WK B b w W/\J0 W w.heap.size 114 #[.int .i64 5,.int .u64 n,.int .u64 m,.int .u64 j,.int .u64 g])->(W.cell? ⟨w.heap.size,0,none⟩=some (.int .i64 5)/\True)):=hid λW h=>by
    obtain⟨_,_,_,_,_,h⟩:=h.out;exact⟨h.cell 0,trivial⟩
   have au:Hid (∀W,Hid (∃o C,IsP b o/\Wr B b o (.slice (some ⟨r,f,none⟩) l.length cap) (i+(A0 (.star x)).length) (a++F0 (.star x)) C W/\WK B b w W/\J0 W w.heap.size 114 #[.int .i64 5,.int .u64 n,.int .u64 m,.int .u64 j,.int .u64 g])->(W.cell? ⟨w.heap.size,0,none⟩=some (.int .i64 5)/\True)):=hid λW h=>by
    obtain⟨_,_,_,_,_,h⟩:=h.out;exact⟨h.cell 0,trivial⟩
   have aD:Hid (∀W,Hid (∃o C,IsP b o/\Wr B b o (.slice (some ⟨r,f,none⟩) l.length cap) (i+1+(A0 x).length) (a++C1 (T7 5 false x) (F0 x)) C W/\WK B b w W/\J0 W w.heap.size 114 #[.int .i64 5,.int .u64 n,.int .u64 m,.int .u64 j,.int .u64 g])->Calls prog 105 #[.pointer (some ⟨b,0,none⟩),.int .u8 42] W (λe W'=>e=.returned .nilIface/\Hid (∃o C,IsP b o/\Wr B b o (.slice (some ⟨r,f,none⟩) l.length cap) (i+(A0 (.star x)).length) (a++F0 (.star x)) C W'/\WK B b w W'/\J0 W' w.heap.size 114 #[.int .i64 5,.int .u64 n,.int .u64 m,.int .u64 j,.int .u64 g]))):=hid λW h=>by
    obtain⟨o,C,Y,X,T,h4⟩:=h.out;refine(A0i B b _ 42 (by decide) o _ C _ W X Y (by simp only[List.length_append];omega)).mono ?_;rintro e w'⟨he,v3,J,t⟩;refine⟨he,hid ⟨_,v3,.inr rfl,?_,T.trans t,t.keep _ _ _ Q (by decide) h4⟩⟩;have e1:i+(A0 (.star x)).length=i+1+(A0 x).length:=by simp[A0];omega
    have e2:a++F0 (.star x)=a++C1 (T7 5 false x) (F0 x)++[UInt8.ofNat 42]:=by rw[F0];simp
    rw[e1,e2];exact J
   go_wp2_with fail
   go_region_held3 (λW=>(W.cell? ⟨w.heap.size,0,none⟩=some (.int .i64 5)/\True))
    (first | exact av.out _ (by assumption) | exact au.out _ (by assumption))
    (first
      | (go_at_call 105;refine(aD.out _ (by assumption)).mono ?_;rintro e w4⟨rfl,ar⟩))
   have H3:=hid (show ∃o C,IsP b o/\Wr B b o (.slice (some ⟨r,f,none⟩) l.length cap) (i+(A0 (.star x)).length) (a++F0 (.star x)) C w4/\WK B b w w4 from by
    obtain⟨o,C,Y,X,T,_⟩:=ar.out;exact⟨o,C,Y,X,T⟩)
   go_wp2_with fail
   go_end0
   exact⟨rfl,H3.out⟩
 | plus x ihx =>
   intro i V;have ab:=A0f V.plus.2 (ihx _ V.plus.2);intro p v a w E hp d O;have q:=V.plus.1;obtain⟨n,m,j,g,hz⟩:∃n m j g:Nat,(n,m,j,g)=zc:=⟨_,_,_,_,rfl⟩
   rw[←hz] at q;clear hz;have R:i<l.length:=(List.getElem?_eq_some_iff.1 q).1;have af:=E.len;have Z:=hid E;have HR:=hid d;have N:B<=w.heap.size:=by have:=d.hB;have:=d.lt;omega
   have HP:=hid hp;obtain⟨_,A,r,f,cap,rfl,z⟩:=E;obtain⟨n0,n1,n2,n3,n4⟩:=z w br_ i _ q;have am:=hid (A _ (List.mem_of_getElem? q));have r2:w.cell? ⟨b,2,none⟩=some (.slice (some ⟨r,f,none⟩) l.length cap):=d.blk.cell 2;have r3:w.cell? ⟨b,3,none⟩=some (.int .i64 i):=d.blk.cell 3;have z3:w.frozen? ⟨b,3,none⟩=false:=d.blk.frozen 3;have hlt:=d.lt;have ae:r<w.heap.size:=World.block_lt_of_cell? w _ n0;have k0:(0:Int)<=i:=by omega
   have k1:(i:Int)<l.length:=by omega
   have Q:w.heap.size≠b:=by omega
   have D:(w.setCell ⟨b,3,none⟩ (.int .i64 ((i:Int)+1))).heap.size=w.heap.size:=by simp
   have F:Below (w.setCell ⟨b,3,none⟩ (.int .i64 ((i:Int)+1))).heap.size (w.setCell ⟨b,3,none⟩ (.int .i64 ((i:Int)+1))) ((w.setCell ⟨b,3,none⟩ (.int .i64 ((i:Int)+1))).alloc (.cells #[.int .i64 6,.int .u64 n,.int .u64 m,.int .u64 j,.int .u64 g] 114)).drew:=ba_.drew
   have H:Hid (J0 ((w.setCell ⟨b,3,none⟩ (.int .i64 ((i:Int)+1))).alloc (.cells #[.int .i64 6,.int .u64 n,.int .u64 m,.int .u64 j,.int .u64 g] 114)).drew w.heap.size 114 #[.int .i64 6,.int .u64 n,.int .u64 m,.int .u64 j,.int .u64 g]):=hid (by
    have:=(J0.new (w.setCell ⟨b,3,none⟩ (.int .i64 ((i:Int)+1))) 114 #[.int .i64 6,.int .u64 n,.int .u64 m,.int .u64 j,.int .u64 g]).drew;rw[D] at this;exact this)
   have S:Hid (Wr B b p (.slice (some ⟨r,f,none⟩) l.length cap) (i+1) a v ((w.setCell ⟨b,3,none⟩ (.int .i64 ((i:Int)+1))).alloc (.cells #[.int .i64 6,.int .u64 n,.int .u64 m,.int .u64 j,.int .u64 g] 114)).drew):=hid (by
    have:=d.set3 (i+1);rw[show((i+1:Nat):Int)=(i:Int)+1 by omega] at this;exact this.below F)
   have L:Hid (WK B b w ((w.setCell ⟨b,3,none⟩ (.int .i64 ((i:Int)+1))).alloc (.cells #[.int .i64 6,.int .u64 n,.int .u64 m,.int .u64 j,.int .u64 g] 114)).drew):=hid ((WK.set d.hB w 3 _).trans (WK.of_below (by rw[D];exact N) F));have ap:w.heap.size<((w.setCell ⟨b,3,none⟩ (.int .i64 ((i:Int)+1))).alloc (.cells #[.int .i64 6,.int .u64 n,.int .u64 m,.int .u64 j,.int .u64 g] 114)).drew.heap.size:=H.out.lt;unfold V7;clear q R z A d hp F D;go_enter func72,ntmps72;go_wp2_with fail;go_region;go_wp2_with fail;generalize hw2:((w.setCell ⟨b,3,none⟩ (.int .i64 ((i:Int)+1))).alloc (.cells #[.int .i64 6,.int .u64 n,.int .u64 m,.int .u64 j,.int .u64 g] 114)).drew=w2 at *;clear hw2;have b0:w2.cell? ⟨w.heap.size,0,none⟩=some (.int .i64 6):=H.out.cell 0;have M:(A0 (.plus x)).length=1+(A0 x).length:=by simp[A0];omega
   have aj:=P4 x;have ak:=T6 (T7 6 false x) (F0 x);have aa:=A1x (T7 6 false x) (F0 x);have ay:a.length+3010*(A0 x).length+2<=1000000:=by omega
   have bb:a.length+(C1 (T7 6 false x) (F0 x)).length<=2000000:=by omega
   clear M aj ak aa O;have P:Hid (∀(G:Bool)(p v:V_) (a:List U_) (W:W_),PE B (.slice (some ⟨r,f,none⟩) l.length cap) l W->IsP b p->Wr B b p (.slice (some ⟨r,f,none⟩) l.length cap) (i+1) a v W->a.length+3010*(A0 x).length+2<=1000000->Calls prog 106 #[.pointer (some ⟨b,0,none⟩),.int .i64 6,.bool G] W (V7 B b (.slice (some ⟨r,f,none⟩) l.length cap) (i+1+(A0 x).length) (a++C1 (T7 6 G x) (F0 x)) W)):=hid λG p v a W Y X T h4=>ab 6 G p v a W Y X T h4
   unfold V7 at P;clear ab;refine(P.out false p v a w2 (Z.out.below L.out.bel) HP.out S.out ay).mono ?_;rintro e w3⟨rfl,p3,v3,ac,J,t⟩;have bf:Hid (∃o C,IsP b o/\Wr B b o (.slice (some ⟨r,f,none⟩) l.length cap) (i+1+(A0 x).length) (a++C1 (T7 6 false x) (F0 x)) C w3.drew/\WK B b w w3.drew/\J0 w3.drew w.heap.size 114 #[.int .i64 6,.int .u64 n,.int .u64 m,.int .u64 j,.int .u64 g]):=hid ⟨p3,v3,ac,J.below (br_.drew),(L.out.trans t).trans (WK.of_below (Nat.le_trans N (L.out.trans t).bel.size) (br_.drew)),(t.keep _ _ _ Q (by decide) H.out).drew⟩;clear ac J t P
   have av:Hid (∀W,Hid (∃o C,IsP b o/\Wr B b o (.slice (some ⟨r,f,none⟩) l.length cap) (i+1+(A0 x).length) (a++C1 (T7 6 false x) (F0 x)) C W/\WK B b w W/\J0 W w.heap.size 114 #[.int .i64 6,.int .u64 n,.int .u64 m,.int .u64 j,.int .u64 g])->(W.cell? ⟨w.heap.size,0,none⟩=some (.int .i64 6)/\True)):=hid λW h=>by
    obtain⟨_,_,_,_,_,h⟩:=h.out;exact⟨h.cell 0,trivial⟩
   have au:Hid (∀W,Hid (∃o C,IsP b o/\Wr B b o (.slice (some ⟨r,f,none⟩) l.length cap) (i+(A0 (.plus x)).length) (a++F0 (.plus x)) C W/\WK B b w W/\J0 W w.heap.size 114 #[.int .i64 6,.int .u64 n,.int .u64 m,.int .u64 j,.int .u64 g])->(W.cell? ⟨w.heap.size,0,none⟩=some (.int .i64 6)/\True)):=hid λW h=>by
    obtain⟨_,_,_,_,_,h⟩:=h.out;exact⟨h.cell 0,trivial⟩
   have aD:Hid (∀W,Hid (∃o C,IsP b o/\Wr B b o (.slice (some ⟨r,f,none⟩) l.length cap) (i+1+(A0 x).length) (a++C1 (T7 6 false x) (F0 x)) C W/\WK B b w W/\J0 W w.heap.size 114 #[.int .i64 6,.int .u64 n,.int .u64 m,.int .u64 j,.int .u64 g])->Calls prog 105 #[.pointer (some ⟨b,0,none⟩),.int .u8 43] W (λe W'=>e=.returned .nilIface/\Hid (∃o C,IsP b o/\Wr B b o (.slice (some ⟨r,f,none⟩) l.length cap) (i+(A0 (.plus x)).length) (a++F0 (.plus x)) C W'/\WK B b w W'/\J0 W' w.heap.size 114 #[.int .i64 6,.int .u64 n,.int .u64 m,.int .u64 j,.int .u64 g]))):=hid λW h=>by
    obtain⟨o,C,Y,X,T,h4⟩:=h.out;refine(A0i B b _ 43 (by decide) o _ C _ W X Y (by simp only[List.length_append];omega)).mono ?_;rintro e w'⟨he,v3,J,t⟩;refine⟨he,hid ⟨_,v3,.inr rfl,?_,T.trans t,t.keep _ _ _ Q (by decide) h4⟩⟩;have e1:i+(A0 (.plus x)).length=i+1+(A0 x).length:=by simp[A0];omega
    have e2:a++F0 (.plus x)=a++C1 (T7 6 false x) (F0 x)++[UInt8.ofNat 43]:=by rw[F0];simp
    rw[e1,e2];exact J
   go_wp2_with fail
   go_region_held3 (λW=>(W.cell? ⟨w.heap.size,0,none⟩=some (.int .i64 6)/\True))
    (first | exact av.out _ (by assumption) | exact au.out _ (by assumption))
    (first
      | (go_at_call 105;refine(aD.out _ (by assumption)).mono ?_;rintro e w4⟨rfl,ar⟩))
   have H3:=hid (show ∃o C,IsP b o/\Wr B b o (.slice (some ⟨r,f,none⟩) l.length cap) (i+(A0 (.plus x)).length) (a++F0 (.plus x)) C w4/\WK B b w w4 from by
    obtain⟨o,C,Y,X,T,_⟩:=ar.out;exact⟨o,C,Y,X,T⟩)
   go_wp2_with fail
   go_end0
   exact⟨rfl,H3.out⟩
 | opt x ihx =>
   intro i V;have ab:=A0f V.opt.2 (ihx _ V.opt.2);intro p v a w E hp d O;have q:=V.opt.1;obtain⟨n,m,j,g,hz⟩:∃n m j g:Nat,(n,m,j,g)=zc:=⟨_,_,_,_,rfl⟩
   rw[←hz] at q;clear hz;have R:i<l.length:=(List.getElem?_eq_some_iff.1 q).1;have af:=E.len;have Z:=hid E;have HR:=hid d;have N:B<=w.heap.size:=by have:=d.hB;have:=d.lt;omega
   have HP:=hid hp;obtain⟨_,A,r,f,cap,rfl,z⟩:=E;obtain⟨n0,n1,n2,n3,n4⟩:=z w br_ i _ q;have am:=hid (A _ (List.mem_of_getElem? q));have r2:w.cell? ⟨b,2,none⟩=some (.slice (some ⟨r,f,none⟩) l.length cap):=d.blk.cell 2;have r3:w.cell? ⟨b,3,none⟩=some (.int .i64 i):=d.blk.cell 3;have z3:w.frozen? ⟨b,3,none⟩=false:=d.blk.frozen 3;have hlt:=d.lt;have ae:r<w.heap.size:=World.block_lt_of_cell? w _ n0;have k0:(0:Int)<=i:=by omega
   have k1:(i:Int)<l.length:=by omega
   have Q:w.heap.size≠b:=by omega
   have D:(w.setCell ⟨b,3,none⟩ (.int .i64 ((i:Int)+1))).heap.size=w.heap.size:=by simp
   have F:Below (w.setCell ⟨b,3,none⟩ (.int .i64 ((i:Int)+1))).heap.size (w.setCell ⟨b,3,none⟩ (.int .i64 ((i:Int)+1))) ((w.setCell ⟨b,3,none⟩ (.int .i64 ((i:Int)+1))).alloc (.cells #[.int .i64 7,.int .u64 n,.int .u64 m,.int .u64 j,.int .u64 g] 114)).drew:=ba_.drew
   have H:Hid (J0 ((w.setCell ⟨b,3,none⟩ (.int .i64 ((i:Int)+1))).alloc (.cells #[.int .i64 7,.int .u64 n,.int .u64 m,.int .u64 j,.int .u64 g] 114)).drew w.heap.size 114 #[.int .i64 7,.int .u64 n,.int .u64 m,.int .u64 j,.int .u64 g]):=hid (by
    have:=(J0.new (w.setCell ⟨b,3,none⟩ (.int .i64 ((i:Int)+1))) 114 #[.int .i64 7,.int .u64 n,.int .u64 m,.int .u64 j,.int .u64 g]).drew;rw[D] at this;exact this)
   have S:Hid (Wr B b p (.slice (some ⟨r,f,none⟩) l.length cap) (i+1) a v ((w.setCell ⟨b,3,none⟩ (.int .i64 ((i:Int)+1))).alloc (.cells #[.int .i64 7,.int .u64 n,.int .u64 m,.int .u64 j,.int .u64 g] 114)).drew):=hid (by
    have:=d.set3 (i+1);rw[show((i+1:Nat):Int)=(i:Int)+1 by omega] at this;exact this.below F)
   have L:Hid (WK B b w ((w.setCell ⟨b,3,none⟩ (.int .i64 ((i:Int)+1))).alloc (.cells #[.int .i64 7,.int .u64 n,.int .u64 m,.int .u64 j,.int .u64 g] 114)).drew):=hid ((WK.set d.hB w 3 _).trans (WK.of_below (by rw[D];exact N) F));have ap:w.heap.size<((w.setCell ⟨b,3,none⟩ (.int .i64 ((i:Int)+1))).alloc (.cells #[.int .i64 7,.int .u64 n,.int .u64 m,.int .u64 j,.int .u64 g] 114)).drew.heap.size:=H.out.lt;unfold V7;clear q R z A d hp F D;go_enter func72,ntmps72;go_wp2_with fail;go_region;go_wp2_with fail;generalize hw2:((w.setCell ⟨b,3,none⟩ (.int .i64 ((i:Int)+1))).alloc (.cells #[.int .i64 7,.int .u64 n,.int .u64 m,.int .u64 j,.int .u64 g] 114)).drew=w2 at *;clear hw2;have b0:w2.cell? ⟨w.heap.size,0,none⟩=some (.int .i64 7):=H.out.cell 0;have M:(A0 (.opt x)).length=1+(A0 x).length:=by simp[A0];omega
   have aj:=P4 x;have ak:=T6 (T7 7 false x) (F0 x);have aa:=A1x (T7 7 false x) (F0 x);have ay:a.length+3010*(A0 x).length+2<=1000000:=by omega
   have bb:a.length+(C1 (T7 7 false x) (F0 x)).length<=2000000:=by omega
   clear M aj ak aa O;have P:Hid (∀(G:Bool)(p v:V_) (a:List U_) (W:W_),PE B (.slice (some ⟨r,f,none⟩) l.length cap) l W->IsP b p->Wr B b p (.slice (some ⟨r,f,none⟩) l.length cap) (i+1) a v W->a.length+3010*(A0 x).length+2<=1000000->Calls prog 106 #[.pointer (some ⟨b,0,none⟩),.int .i64 7,.bool G] W (V7 B b (.slice (some ⟨r,f,none⟩) l.length cap) (i+1+(A0 x).length) (a++C1 (T7 7 G x) (F0 x)) W)):=hid λG p v a W Y X T h4=>ab 7 G p v a W Y X T h4
   unfold V7 at P;clear ab;refine(P.out false p v a w2 (Z.out.below L.out.bel) HP.out S.out ay).mono ?_;rintro e w3⟨rfl,p3,v3,ac,J,t⟩;have bf:Hid (∃o C,IsP b o/\Wr B b o (.slice (some ⟨r,f,none⟩) l.length cap) (i+1+(A0 x).length) (a++C1 (T7 7 false x) (F0 x)) C w3.drew/\WK B b w w3.drew/\J0 w3.drew w.heap.size 114 #[.int .i64 7,.int .u64 n,.int .u64 m,.int .u64 j,.int .u64 g]):=hid ⟨p3,v3,ac,J.below (br_.drew),(L.out.trans t).trans (WK.of_below (Nat.le_trans N (L.out.trans t).bel.size) (br_.drew)),(t.keep _ _ _ Q (by decide) H.out).drew⟩;clear ac J t P
   have av:Hid (∀W,Hid (∃o C,IsP b o/\Wr B b o (.slice (some ⟨r,f,none⟩) l.length cap) (i+1+(A0 x).length) (a++C1 (T7 7 false x) (F0 x)) C W/\WK B b w W/\J0 W w.heap.size 114 #[.int .i64 7,.int .u64 n,.int .u64 m,.int .u64 j,.int .u64 g])->(W.cell? ⟨w.heap.size,0,none⟩=some (.int .i64 7)/\True)):=hid λW h=>by
    obtain⟨_,_,_,_,_,h⟩:=h.out;exact⟨h.cell 0,trivial⟩
   have au:Hid (∀W,Hid (∃o C,IsP b o/\Wr B b o (.slice (some ⟨r,f,none⟩) l.length cap) (i+(A0 (.opt x)).length) (a++F0 (.opt x)) C W/\WK B b w W/\J0 W w.heap.size 114 #[.int .i64 7,.int .u64 n,.int .u64 m,.int .u64 j,.int .u64 g])->(W.cell? ⟨w.heap.size,0,none⟩=some (.int .i64 7)/\True)):=hid λW h=>by
    obtain⟨_,_,_,_,_,h⟩:=h.out;exact⟨h.cell 0,trivial⟩
   have aD:Hid (∀W,Hid (∃o C,IsP b o/\Wr B b o (.slice (some ⟨r,f,none⟩) l.length cap) (i+1+(A0 x).length) (a++C1 (T7 7 false x) (F0 x)) C W/\WK B b w W/\J0 W w.heap.size 114 #[.int .i64 7,.int .u64 n,.int .u64 m,.int .u64 j,.int .u64 g])->Calls prog 105 #[.pointer (some ⟨b,0,none⟩),.int .u8 63] W (λe W'=>e=.returned .nilIface/\Hid (∃o C,IsP b o/\Wr B b o (.slice (some ⟨r,f,none⟩) l.length cap) (i+(A0 (.opt x)).length) (a++F0 (.opt x)) C W'/\WK B b w W'/\J0 W' w.heap.size 114 #[.int .i64 7,.int .u64 n,.int .u64 m,.int .u64 j,.int .u64 g]))):=hid λW h=>by
    obtain⟨o,C,Y,X,T,h4⟩:=h.out;refine(A0i B b _ 63 (by decide) o _ C _ W X Y (by simp only[List.length_append];omega)).mono ?_;rintro e w'⟨he,v3,J,t⟩;refine⟨he,hid ⟨_,v3,.inr rfl,?_,T.trans t,t.keep _ _ _ Q (by decide) h4⟩⟩;have e1:i+(A0 (.opt x)).length=i+1+(A0 x).length:=by simp[A0];omega
    have e2:a++F0 (.opt x)=a++C1 (T7 7 false x) (F0 x)++[UInt8.ofNat 63]:=by rw[F0];simp
    rw[e1,e2];exact J
   go_wp2_with fail
   go_region_held3 (λW=>(W.cell? ⟨w.heap.size,0,none⟩=some (.int .i64 7)/\True))
    (first | exact av.out _ (by assumption) | exact au.out _ (by assumption))
    (first
      | (go_at_call 105;refine(aD.out _ (by assumption)).mono ?_;rintro e w4⟨rfl,ar⟩))
   have H3:=hid (show ∃o C,IsP b o/\Wr B b o (.slice (some ⟨r,f,none⟩) l.length cap) (i+(A0 (.opt x)).length) (a++F0 (.opt x)) C w4/\WK B b w w4 from by
    obtain⟨o,C,Y,X,T,_⟩:=ar.out;exact⟨o,C,Y,X,T⟩)
   go_wp2_with fail
   go_end0
   exact⟨rfl,H3.out⟩
def A1c(l:List Nd)(t:Rx):List U_×Int:=if chk l≠0 then ([],chk l) else if (F0 t).length<=200 then (F0 t,0) else ([],3)
def A5t(r:List U_×Int)(w:W_)(e:Ending)(w':W_):Prop:=e=.returned (.tuple #[.string ⟨r.1.toArray⟩,m7 r.2])/\Below w.heap.size w w'
theorem B77(l:List Nd)(t:Rx)(T:chk l=0->l=A0 t)(z:∀n∈l,P5 n.cls)(v:V_)(w:W_)(Q:q7 w v l):
 Calls prog 45 #[v] w (A5t (A1c l t) w):=by
 have a:=hid (A0U l v w Q);unfold A7y at a;by_cases hc:chk l=0
 .have H:=T hc
  have Z:=(B5k hc).1;have F:0<l.length:=by rw[H];exact G0 t
  have h:A1c l t=if (F0 t).length<=200 then (F0 t,0) else ([],3):=by unfold A1c;rw[if_neg (by simp[hc])]
  have hat:At l 0 t:=by rw[H];exact At.whole t
  have s:=P4 t;rw[←H] at s;have m:=hid (λB b rv=>B36 (B:=B) (b:=b) (rv:=rv) t 0 hat);unfold A3q V7 at m;obtain⟨R,S⟩:∃R,R=A1c l t:=⟨_,rfl⟩
  rw[←S];rw[h] at S;have N:=hid S;rw[←H] at m;rw[hc,j5] at a;obtain⟨A,cap,rfl,ah,X,r⟩:=Q.open_;obtain⟨y,f,rfl,G,q⟩:=r F;have aj:3010*l.length<=200000:=by omega
  have O:Hid (∀W,Below w.heap.size w W->PE W.heap.size (.slice (some ⟨y,f,none⟩) l.length cap) l W):=hid λW hW=>⟨Z,z,y,f,cap,rfl,λW' Y=>q W' (λo=>((Y.cell (p:=⟨y,o,none⟩) (Nat.lt_of_lt_of_le G hW.size)).trans (hW.cell (p:=⟨y,o,none⟩) G)))⟩
  generalize F0 t=tt at *;clear S hat h Q z hc T r q H;unfold A5t;go_enter func45,ntmps45;go_wp2_with fail;refine a.out.mono ?_;rintro e j⟨rfl,i⟩;have C:Below j.heap.size j (j.alloc (.cells #[.pointer none,.slice none 0 0,.slice (some ⟨y,f,none⟩) l.length cap,.int .i64 0] 131)):=ba_;have ac:=hid ((O.out j i).below C);have aa:Hid (Wr j.heap.size j.heap.size (.pointer none) (.slice (some ⟨y,f,none⟩) l.length cap) 0 [] (.slice none 0 0) (j.alloc (.cells #[.pointer none,.slice none 0 0,.slice (some ⟨y,f,none⟩) l.length cap,.int .i64 0] 131))):=hid ⟨lr_ _,J0.new _ _ _,⟨by simp[Lib.byteCells],.inl ⟨rfl,rfl⟩⟩,by simp[Value.ownBlock],λ_=>rfl⟩;have E:=hid i;have af:=hid C;clear i C a;have M:=hid (m.out j.heap.size j.heap.size _ (.pointer none) _ [] _ ac.out (.inl rfl) aa.out (by simp;omega));clear m O s;go_wp2_with fail;refine M.out.mono ?_;rintro e w2⟨rfl,p2,v2,V,g,J⟩;rw[List.nil_append] at g;have al:=hid g;have P:=hid (E.out.trans ((af.out.trans J.bel).mono E.out.size));have ad:=hid (B7X _ _ _ _ _ _ _ w2 g);have ab:=hid (B0k _ _ _ _ _ _ _ w2 g);clear V g J M;go_wp2_with fail;refine ad.out.mono ?_;rintro e w3⟨rfl,rfl⟩;by_cases h200:tt.length<=200
  .have d:=df_ ((200:Int)<tt.length)
   have D:Hid (R=(tt,0)):=hid (by rw[N.out,if_pos h200]);clear h200;go_wp2_with fail;refine ab.out.mono ?_;rintro e w4⟨rfl,L⟩;have ae:=hid (P.out.trans (L.mono E.out.size));clear L;go_wp2_with fail;go_ret2;exact⟨by rw[D.out];rfl,ae.out⟩
  .have d:=dt_ ((200:Int)<tt.length)
   have D:Hid (R=([],3)):=hid (by rw[N.out,if_neg h200]);clear h200;go_wp2_with fail;go_ret2;exact⟨by rw[D.out];rfl,P.out⟩
 .have h:A1c l t=([],chk l):=by unfold A1c;rw[if_pos hc]
  rw[h];unfold A5t;dsimp only;rw[L8 hc];rw[L8 hc] at a;clear Q z T h hc;generalize chk l=c at *;go_enter func45,ntmps45;go_wp2_with fail;refine a.out.mono ?_;rintro e j⟨rfl,i⟩;go_wp2_with fail;go_ret2;exact⟨rfl,i⟩
