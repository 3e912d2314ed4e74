import Derived.Test.YthhcpbfgoofppaaGreatDoorGFind
import Derived.Test.YthhcpbfgoofppaaGreatDoorGSetC
set_option linter.unusedVariables false
set_option linter.unusedSimpArgs false
open Wf
set_option maxRecDepth 100000
set_option maxHeartbeats 8000000
open Go.Lib (hid)
open Go.Proofs.Tryz hiding parts
namespace Go.Proofs.YthhcpbfgoofppaaGreatDoor.setW
open Go.RowKit Wf
theorem A4C:(prog.info? 53).map (λi=>(i.zero,i.size,i.bytes))=some (some (.agg #[.int .i64 0,.string ⟨#[]⟩]),2,24):=by kernel_rfl
def M2(x:Mb):List V_:=[.int .i64 x.id,.string x.text]
theorem B0c(l:List Mb):(l.flatMap M2).length=l.length*2:=by
 induction l with
 | nil=>rfl
 | cons q r ih=>simp[M2] at ih ⊢;omega
theorem B7O(l:List Mr)(k:Nat)(q:Mr)(h:l[k]?=some q):((l.take (k+1)).map (·.1)).flatMap M2=((l.take k).map (·.1)).flatMap M2++M2 q.1:=by
 rw[X3 h,List.map_append,List.flatMap_append];simp
def A9k(m:SS)(w:W_)(e:Ending)(w':W_):Prop :=
 ∃(v:V_),e=.returned v/\w'.ownsRow w.heap.size 53 2 v m.ms.length (m.ms.flatMap M2)/\Below w.heap.size w w'
theorem B6T(B b:Nat)(m:SS)(a:List Mr)(A:V_)(w:W_)(h:M1 B b m a A w):
 Calls prog 17 #[.pointer (some ⟨b,0,none⟩)] w (A9k m w):=by
 obtain⟨i0,O,H,G,F⟩:=info_parts A4C;obtain⟨Ao,cap,rfl,ah,ag,j⟩:=h.open_;have X:=h.len;have c0:w.cell? ⟨b,0,none⟩=some (.slice Ao a.length cap):=h.blk.cell 0;have HM:=hid j;have S:=hid h.ms;have hlt:=h.lt;clear h j;unfold A9k;go_enter func17,ntmps17;go_wp2_with fail
 go_loopw [3,11] (λv3 v11 wr=>∃k:Nat,k<=a.length/\v11=.int .i64 k/\Hid (wr.ownsRow w.heap.size 53 2 v3 k (((a.take k).map (·.1)).flatMap M2))/\Hid (Below w.heap.size w wr)) (λ_ i _=>a.length - (intOf i).toNat)
 case atStart=>exact⟨0,by omega,rfl,hid (World.ownsRow_nil _ _ _ _),hid br_⟩
 case round =>
  obtain⟨k,hk,rfl,R,z⟩:=hrel;by_cases hlk:k<a.length
  .obtain⟨g,rfl,hg,s⟩:=HM.out (by omega)
   have d:a[k]?=some (a[k]'hlk):=List.getElem?_eq_getElem hlk;generalize a[k]'hlk=q at d;obtain⟨m0,m1,E,m3⟩:=s wr (λo=>z.out.cell (p:=⟨g,o,none⟩) hg) k q d;have y:=hid (B7O a k q d);have J:Hid ((((a.take k).map (·.1)).flatMap M2).length=k*2):=hid (by rw[B0c,List.length_map,List.length_take];omega);obtain⟨⟨D,C,t⟩,⟨Y,nc⟩,Z⟩:=q;unfold A3O at E;dsimp only at m0 m1 E m3;have n:Hid (((a.take (k+1)).map (·.1)).flatMap M2=((a.take k).map (·.1)).flatMap M2++[.int .i64 D,.string C]):=hid (by rw[y.out];rfl);generalize (A0 t).length=N at E;have k0:(0:Int)<=k:=by omega
   have k1:(k:Int)<a.length:=by omega
   have f:=hid z.out.size;clear d s y;generalize ((a.take k).map (·.1)).flatMap M2=L at *;have P:=hid ((R.out.alloc (.cells #[.int .i64 D,.string C,.slice (some ⟨Y,0,none⟩) N nc,.string Z] 97)).alloc (.cells #[.int .i64 D,.string C] 53))
   go_wp2_with (at_builtin;refine wpList_append_own_at _ rfl (.tmp 15) (.tmp 18) _ rfl w.heap.size 53 i0 _ 2 24 underlying41 O H G F rfl (by omega) _ k L rfl P.out ⟨wr.heap.size+1,0,none⟩ 1 1 [.int .i64 D,.string C] rfl rfl (A7S _ _ _ _ _ (by simp)) (by intro u V;simp at V;rcases V with rfl | rfl <;> rfl) (by unfold maxLen;omega) (by omega) (by have:=f.out;simp;omega) ?_)
   intro v' w' c r _ hat';rw[←n.out] at c;have Q:=hid c;have T:=hid (J4 ((z.out.alloc f.out _).alloc (by have:=f.out;simp;omega) _) (lr_ _) (by have:=f.out;simp;omega) P.out r);clear c r hat' R z n J P;go_wp2_with fail;go_roundw
   case rel=>exact⟨k+1,by omega,by go_num,Q,T⟩
   case measure=>simp[intOf];omega
  .obtain rfl:k=a.length:=by omega
   go_wp2_with fail;go_ret;refine⟨_,rfl,?_,z.out⟩;have:=R.out;rw[List.take_length] at this;rw[S.out,List.length_map];exact this
theorem B3D{w:W_}{base:Nat}{v:V_}{S:List (Nat×Nat×Nat)}(h:w.ownsRow base 70 3 v S.length (S.flatMap Q0)):∃A cap,v=.slice A S.length cap:=by
 obtain⟨A,n,cap,rfl,_,_,a,_⟩:=Rd.of_own h;rw[hits_len] at a;exact⟨A,cap,by rw[show n=S.length by omega]⟩
theorem B0b{w:W_}{base:Nat}{v:V_}{S:List Mb}(h:w.ownsRow base 53 2 v S.length (S.flatMap M2)):∃A cap,v=.slice A S.length cap:=by
 obtain⟨A,n,cap,rfl,_,_,a,_⟩:=Rd.of_own h;rw[B0c] at a;exact⟨A,cap,by rw[show n=S.length by omega]⟩
theorem B86(l:List Mb):∀(k j:Nat)(h:Mb),l[k]?=some h->j<2->(l.flatMap M2)[k*2+j]?=(M2 h)[j]?:=by
 induction l with
 | nil=>intro k j x h;simp at h
 | cons m r ih =>
   intro k j x h a;rcases k with _|k
   .simp at h
    subst h;simp only[List.flatMap_cons,Nat.zero_mul,Nat.zero_add];rw[List.getElem?_append_left (by simpa[M2] using a)]
   .simp only[List.flatMap_cons]
    rw[List.getElem?_append_right (by simp[M2];omega)];have e:(k+1)*2+j - (M2 m).length=k*2+j:=by simp[M2];omega
    rw[e];exact ih k j x (by simpa using h) a
theorem A0v{w:W_}{v:V_}{l:List Mb}(h:Rd w 2 v (l.flatMap M2)):∃(A:Option Addr)(cap:Nat),v=.slice A l.length cap/\l.length<=cap/\cap<=9223372036854775807 /\
 (0<l.length->∃b a,A=some ⟨b,a,none⟩/\b<w.heap.size/\∀(w':W_),(∀o,w'.cell? ⟨b,o,none⟩=w.cell? ⟨b,o,none⟩)->∀(k:Nat)(x:Mb),l[k]?=some x->w'.cell? ⟨b,a+k*2,none⟩=some (.int .i64 x.id)/\w'.cell? ⟨b,a+k*2+1,none⟩=some (.string x.text)):=by
 obtain⟨A,n,cap,rfl,y,t,s,r⟩:=h;rw[B0c] at s;obtain rfl:n=l.length:=by omega
 refine⟨A,cap,rfl,y,t,λf=>?_⟩;obtain⟨b,a,rfl,q⟩:=r f
 have c:∀(k:Nat)(x:Mb),l[k]?=some x->∀j u,j<2->(M2 x)[j]?=some u->w.cell? ⟨b,a+(k*2+j),none⟩=some u:=by
  intro k x d j u p i;exact q _ _ (by rw[B86 l k j _ d p];exact i)
 have hlt:b<w.heap.size:=by
  have m:l[0]?=some (l[0]'f):=List.getElem?_eq_getElem f;exact World.block_lt_of_cell? w _ (c 0 _ m 0 _ (by omega) rfl)
 refine⟨b,a,rfl,hlt,λw' g k x d=>?_⟩;simp only[g];exact⟨c k x d 0 _ (by omega) rfl,c k x d 1 _ (by omega) rfl⟩
structure DoS (ws:List (List U_)) (J:List (Nat×Nat)->World->Prop) (nt:Nat) (c1 c2:V_):Prop where
 below:∀done W W',J done W->Below W.heap.size W W'->J done W'
 call:∀done W i e,J done W->(∃x,ws[i]?=some x/\x.length<=e)->e<=nt->done.length<=ws.length*nt->Calls prog 88 #[.int .i64 ((i:Nat):Int),.int .i64 ((e:Nat):Int),c1,c2] W (λen w'=>en=.returned (.tuple #[])/\J (done++[(i,e)]) w'/\A7w W w')
theorem B8F(w0:W_)(Nb:Nat)(wv:V_)(c:Kn)(ws:List (List U_))(Ks:List Kn)(ch:Kn->List (Nat×Value))(bk ev:Kn->Value)(h1:ws.length<=20)(s:B_)(hs:s.size<=400)(c1 c2:V_)
 (J:List (Nat×Nat)->World->Prop) (hT:∀done W,J done W->A2u w0 Nb wv c ws Ks ch bk ev W) (hD:DoS ws J s.size c1 c2) (w:W_) (h0:J [] w):
 Calls prog 87 #[.pointer (some ⟨Nb,0,none⟩),.string s,.func (.func 88) #[] #[c1,c2]] w (λe w'=>e=.returned (.tuple #[])/\J (G8 ws s.data.toList s.size) w'):=by
 have HT:=hid hT;have HD:=hid hD;have hw:=hT _ _ h0;have n0:w.cell? ⟨Nb,0,none⟩=some (.pointer (some ⟨c.b,0,none⟩)):=hw.net.net.cell 0;have ad:Hid (c∈Ks/\Q6 ws (s.data.toList.take 0) c.u):=hid ⟨hw.net.rt,by rw[hw.net.ru,List.take_zero];exact Q6.nil ws⟩;have H0:=hid h0;clear hT hD hw h0;go_enter func87,ntmps87;go_wp2_with fail
 go_loopw [6,16] (λv6 v16 wr=>∃(i:Nat)(k:Kn),i<=s.size/\v6=.pointer (some ⟨k.b,0,none⟩)/\v16=.int .i64 i/\Hid (k∈Ks/\Q6 ws (s.data.toList.take i) k.u)/\Hid (J (G8 ws s.data.toList i) wr)) (λ_ i _=>s.size - (intOf i).toNat)
 case atStart=>exact⟨0,c,by omega,rfl,rfl,ad,H0⟩
 case round =>
  clear ad H0 n0;obtain⟨i,k,hi,rfl,rfl,HK,H⟩:=hrel;by_cases hlt:i<s.size
  .have af:=hid (B4w hlt)
   have m:=hid (HT.out _ _ H.out);have E:s[i].toNat<256:=s[i].toNat_lt
   have n:Hid (Calls prog 126 #[.pointer (some ⟨Nb,0,none⟩),.pointer (some ⟨k.b,0,none⟩),.int .u8 (s[i].toNat:Int)] wr (λe w'=>∃r:Kn,e=.returned (.pointer (some ⟨r.b,0,none⟩))/\(r∈Ks/\Q6 ws (s.data.toList.take (i+1)) r.u)/\wr=w')):=hid (by
    refine(B4Q m.out.net m.out.tie HK.out.1 trivial (s.data.toList.take i) HK.out.2 s[i].toNat E).mono ?_;rintro e w'⟨r,rfl,L,hl,_,rfl⟩;refine⟨r,rfl,⟨L,?_⟩,rfl⟩;rw[X3 af.out]
    simpa using hl)
   clear HK
   go_wp2_with (first
    | (go_at_call 126;refine n.out.mono ?_;rintro e w'⟨r,rfl,L,rfl⟩;have HR:=hid L;have f:=m.out.net.blk r L.1;obtain⟨xs,d,T⟩:=m.out.rows r L.1;obtain⟨A,cap,hf⟩:=d.src.form;rw[hf] at f d;obtain⟨N,hN⟩:∃N,N=xs.length:=⟨_,rfl⟩;rw[←hN] at f d;have r2:wr.cell? ⟨r.b,2,none⟩=some (.slice A N cap):=f.cell 2;have ac:=hid d;have p:=hid T;have HN:=hid hN;have aw:=hid f;clear L hf d T hN f)
    | (go_at_call 128;refine(B57 A N cap wr).mono ?_;rintro e O⟨rfl,V⟩;have q:=hid V;clear V)
    | (go_at_call 127;refine(B6C wr.heap.size (.slice A N cap) xs (by have:=A1U.few p.out;omega) N HN.out O (by rw[q.out];exact(J0.new wr 191 #[.slice A N cap]).cell 0) (by
        have ar:Below wr.heap.size wr O:=by rw[q.out];exact ba_
        exact(ac.out.src.below ar).vints)).mono ?_;rintro e w2⟨A2,ab,C,rfl,D,S,R,Q,F⟩))
   have h:Below wr.heap.size wr O:=by rw[q.out];exact ba_
   have z:Below wr.heap.size wr w2:=h.trans (F.mono h.size);have G:Hid (C=A3g ws (s.data.toList.take (i+1))):=hid (A82 (p.out.long HR.out.2) S D R);have ae:Hid (N=C.length):=hid (by rw[HN.out,D]);have aG:N<=20:=by have:=A1U.few p.out;rw[←HN.out] at this;omega
   have ag:Hid (J (G8 ws s.data.toList i++(C.take 0).map λx=>(x,i+1)) w2):=hid (by simpa using HD.out.below _ _ _ H.out z);have a:=hid Q;have ax:=hid HR.out;have t:O.heap.size<=w2.heap.size:=F.size;generalize O.heap.size=B1 at a t;clear D S R Q F h z q H ac p HN aw r2 n m
   go_loopw [32] (λv32 wx=>∃j:Nat,j<=N/\v32=.int .i64 j/\Hid (J (G8 ws s.data.toList i++(C.take j).map λx=>(x,i+1)) wx)/\Hid (wx.ownsRow B1 3 1 (.slice A2 N ab) N (D0 C))) (λv _=>N - (intOf v).toNat)
   case atStart=>exact⟨0,by omega,rfl,ag,a⟩
   case round =>
    clear ag a t;obtain⟨j,hj,rfl,H,a⟩:=hrel;by_cases hjn:j<N
    .obtain⟨y,hy⟩:∃y,C[j]?=some y:=⟨_,List.getElem?_eq_getElem (by rw[←ae.out];exact hjn)⟩
     obtain⟨g,cp,hv,aT,aS⟩:=a.out.form (by omega);have aa:A2=some ⟨g,0,none⟩:=by injection hv
     have aq:wr.cell? ⟨g,j,none⟩=some (.int .i64 y):=by
      obtain⟨A',n',c',e1,_,_,_,e4⟩:=Rd.of_own a.out;injection e1 with e1a e1b e1c
      subst e1a;subst e1b;obtain⟨b',aD,e5,e6⟩:=e4 (by omega);rw[aa] at e5;injection e5 with e5
      injection e5 with e5a e5b
      subst e5a;subst e5b;have:=e6 j (.int .i64 y) (by simp[D0,hy])
      simpa using this
     subst aa
     have P:∃x,ws[y]?=some x/\x.length<=i+1:=by
      have:=List.mem_of_getElem? hy;rw[G.out] at this;obtain⟨x,hx,ao⟩:=A2k.1 this;refine⟨x,hx,?_⟩;have hl:=ao.length_le;rw[List.length_take] at hl;omega
     have o:=hid (HD.out.call _ wr y (i+1) H.out P (by omega) (by
      have q1:=B4I ws s.data.toList i
      have q2:(C.take j).length<=ws.length:=by
       have:=A60 ws (s.data.toList.take (i+1));rw[←G.out] at this;simp;omega
      rw[List.length_append,List.length_map];have q3:ws.length*(i+1)<=ws.length*s.size:=Nat.mul_le_mul_left _ (by omega);rw[Nat.mul_succ] at q3;omega))
     have av:=hid hy;have Z:((i+1:Nat):Int)=(i:Int)+1:=by omega
     rw[Z] at o;clear hy hv P Z
     go_wp2_with (go_at_call 88;refine o.out.mono ?_;rintro e w3⟨rfl,Y,X⟩;have aB:=hid Y;have ay:=hid X;clear Y X)
     go_roundw
     case rel=>exact⟨j+1,by omega,by go_num,hid (by have:=aB.out;rw[List.take_add_one,av.out];simpa using this),hid (B1a a.out ay.out)⟩
     case measure=>simp[intOf];omega
    .obtain rfl:j=N:=by omega
     have aA:Hid (J (G8 ws s.data.toList (i+1)) wr):=hid (by
      have:=H.out;rw[ae.out,List.take_length,G.out] at this;rw[A4P];exact this)
     go_wp2_with fail;go_roundw
     case rel=>exact⟨i+1,r,by omega,rfl,by go_num,ax,aA⟩
     case measure=>simp[intOf];omega
  .obtain rfl:i=s.size:=by omega
   go_wp2_with fail
   go_end0
   exact⟨rfl,H.out⟩
abbrev sv (x:B_):V_:=.string x
theorem A3M:A6N prog 9 sv:=A43 underlying9
def A3W:V_:=.int .i64 1
def A4X(l:List B_)(done:List (Nat×Nat)):List (ByteArray×Value):=done.foldl (λa p=>j8 a (l.getD p.1 ⟨#[]⟩) A3W) [(⟨#[]⟩,A3W)]
theorem B0V(l:List B_)(done:List (Nat×Nat))(p:Nat×Nat):A4X l (done++[p])=j8 (A4X l done) (l.getD p.1 ⟨#[]⟩) A3W:=by simp[A4X]
theorem B5O(l:List B_)(n:B_):∀(done:List (Nat×Nat))(a:List (ByteArray×Value)),A6 (done.foldl (λa p=>j8 a (l.getD p.1 ⟨#[]⟩) A3W) a) n=if ∃p∈done,l.getD p.1 ⟨#[]⟩=n then some A3W else A6 a n:=by
 intro done
 induction done with
 | nil=>intro a;simp
 | cons p r ih =>
   intro a;rw[List.foldl_cons,ih,A0D];by_cases c:∃q∈r,l.getD q.1 ⟨#[]⟩=n
   .rw[if_pos c,if_pos]
    obtain⟨q,c,b⟩:=c;exact⟨q,List.mem_cons_of_mem _ c,b⟩
   .rw[if_neg c]
    by_cases b:n=l.getD p.1 ⟨#[]⟩
    .rw[if_pos b,if_pos ⟨p,List.mem_cons_self ..,b.symm⟩]
    .rw[if_neg b,if_neg]
     rintro⟨q,d,f⟩;rcases List.mem_cons.1 d with rfl|d
     .exact b f.symm
     .exact c ⟨q,d,f⟩
theorem B7G(l:List B_)(n:B_)(done:List (Nat×Nat)):A6 (A4X l done) n=if (∃p∈done,l.getD p.1 ⟨#[]⟩=n)\/n=⟨#[]⟩ then some A3W else none:=by
 unfold A4X;rw[B5O];by_cases h1:∃p∈done,l.getD p.1 ⟨#[]⟩=n
 .rw[if_pos h1,if_pos (.inl h1)]
 .rw[if_neg h1]
  by_cases h2:n=⟨#[]⟩
  .rw[if_pos (.inr h2),h2];simp[A6]
  .rw[if_neg (by rintro (h | h);exact h1 h;exact h2 h)]
   simp[A6,h2]
structure y7 (B:Nat) (M ob lb:Nat) (lv:V_) (l:List B_) (done:List (Nat×Nat)) (W:W_):Prop where
 bM:B<=M
 out:J0 W ob 104 #[.map (some M)]
 box:J0 W lb 94 #[lv]
 row:W.ownsRow B 9 1 lv l.length (T0 l)
 mp:Mp W M sv (A4X l done)
section
variable {B M ob lb:Nat} {lv:V_} {l:List B_} {done:List (Nat×Nat)} {W W':W_}
theorem y7.below(h:y7 B M ob lb lv l done W)(a:Below W.heap.size W W'):y7 B M ob lb lv l done W' :=
 ⟨h.bM,h.out.kept a,h.box.kept a,h.row.kept (row:=none) ⟨a.os,a.tape,a.output,a.size,λi b _=>a.block i b⟩ (by cases lv.ownBlock <;> simp),h.mp.below a⟩
theorem A1I{g:Nat}{t:TypeId}{cs:Array V_}{α:Type}{mk:α->Value}{m:List (α×Value)}(h:J0 W g t cs)(c:Mp W M mk m):some g≠some M:=λe=>by
 injection e with e
 subst e;obtain⟨d,a,b,_⟩:=c;unfold J0 at h;rw[h] at b;cases b
theorem A3Q{α:Type}{mk:α->Value}{m:List (α×Value)}{base n a:Nat}{e:TypeId}{v:V_}{c:List V_}(h:W.ownsRow base e a v n c)(d:Mp W M mk m):v.ownBlock=none\/v.ownBlock≠some M:=by
 rcases h.2 with ⟨rfl,_⟩|⟨g,cap,cur,rfl,_,hgg,_⟩
 .exact .inl rfl
 .refine .inr λe=>?_
  have:g=M:=Option.some.inj e;subst this;obtain⟨i,b,f,_⟩:=d;rw[f] at hgg;cases hgg
theorem y7.more(h:y7 B M ob lb lv l done W){p:Nat×Nat}{x:B_}(b:l[p.1]?=some x)(a:W.grownBy W' (some M))(c:Mp W' M sv (j8 (A4X l done) x A3W)):y7 B M ob lb lv l (done++[p]) W' :=
 ⟨h.bM,m5 h.out a (A1I h.out h.mp),m5 h.box a (A1I h.box h.mp),h.row.kept a (A3Q h.row h.mp),by
   rw[B0V,List.getD,b];exact c⟩
end
theorem B4L{w0 w w':W_}{o M:Nat}{d:V_}{a:Kn}{ws:List (List U_)}{Ks:List Kn}{n ev:Kn->Value}{j:Kn->List (Nat×Value)}{m:List (ByteArray×Value)}(h:A2u w0 o d a ws Ks j n ev w)(c:Mp w M sv m)(y:w0.heap.size<=M)(r:∀k∈Ks,k.m≠M)(f:w.grownBy w' (some M)):A2u w0 o d a ws Ks j n ev w':=by
 refine⟨h.net.grown f (λg e=>by injection e with e;omega) (A1I h.net.net c) (λk b=>⟨A1I (h.net.blk k b) c,λe=>r k b (Option.some.inj e)⟩),h.tie,λs q=>?_⟩;obtain⟨p,i,t⟩:=h.rows s q;exact⟨p,i.kept f (A3Q i.2 c),t⟩
theorem C0C(B M ob lb:Nat)(lv:V_)(l:List B_)(done:List (Nat×Nat))(W:W_)(h:y7 B M ob lb lv l done W)(i e:Nat)(x:B_)(k:l[i]?=some x):
 Calls prog 88 #[.int .i64 i,.int .i64 e,.pointer (some ⟨ob,0,none⟩),.pointer (some ⟨lb,0,none⟩)] W (λy w'=>y=.returned (.tuple #[])/\y7 B M ob lb lv l (done++[(i,e)]) w'/\W.drew.grownBy w' (some M)):=by
 have q:i<l.length:=(List.getElem?_eq_some_iff.1 k).1;have g:=h.below br_.drew;obtain⟨A,cap,rfl,s,r,p⟩:=A0Y (Rd.of_own g.row);obtain⟨b,c,rfl,t,j⟩:=p (by omega);have D:W.drew.cell? ⟨b,c+i,none⟩=some (.string x):=j W.drew (λo=>rfl) i x k;have C:W.drew.cell? ⟨lb,0,none⟩=some (.slice (some ⟨b,c,none⟩) l.length cap):=g.box.cell 0;have E:W.drew.cell? ⟨ob,0,none⟩=some (.map (some M)):=g.out.cell 0;obtain⟨n,d,a,f,m⟩:=g.mp.update A3M underlying104 x A3W;have z:Hid (y7 B M ob lb (.slice (some ⟨b,c,none⟩) l.length cap) l (done++[(i,e)]) n/\W.drew.grownBy n (some M)):=hid ⟨g.more k f a,f⟩;unfold A3W sv at d;replace d:(Instr.mapUpdate 104 (.map (some M)) (.string x) (.int .i64 1)).run prog W.drew=.ok () n:=d;have G:(0:Int)<=i:=by omega
 have F:(i:Int)<l.length:=by omega
 clear h g p j k a f m;go_enter func88,ntmps88;go_wp2_with fail;go_region
 all_goals (
  go_wp2
  go_end0
  exact⟨rfl,z.out⟩)
