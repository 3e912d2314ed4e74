import Derived.Test.YthhcpbfgoofppaaGreatDoorGLit
import Derived.Test.YthhcpbfgoofppaaGreatDoorGSetA
set_option linter.unusedVariables false
set_option linter.unusedSimpArgs false
open Wf
set_option maxRecDepth 100000
set_option maxHeartbeats 8000000
open Go.Lib (hid)
open Go.Proofs.Tryz hiding parts
namespace Go.Proofs.YthhcpbfgoofppaaGreatDoor.setW
open Go.RowKit Wf
def A1b(cs:Array V_):Nat->List V_->Array V_
 | _,[]=>cs
 | o,v::r=>A1b (cs.setIfInBounds o v) (o+1) r
theorem A4S(a:List V_):∀(cs:Array V_)(o:Nat),(A1b cs o a).size=cs.size:=by
 induction a with
 | nil=>intro cs o;rfl
 | cons v r ih=>intro cs o;rw[A1b,ih];simp
theorem A49(a:List V_):∀(cs:Array V_)(o j:Nat),o+a.length<=cs.size->(A1b cs o a)[j]?=if o<=j/\j<o+a.length then a[j - o]? else cs[j]?:=by
 induction a with
 | nil=>intro cs o j _;rw[A1b,if_neg (by rw[List.length_nil];omega)]
 | cons v r ih =>
   intro cs o j h;rw[List.length_cons] at h;rw[A1b,ih _ _ _ (by simp;omega)];by_cases h1:o+1<=j/\j<o+1+r.length
   .rw[if_pos h1,if_pos (by simp;omega),show j - o=(j - (o+1))+1 by omega]
    rfl
   .rw[if_neg h1]
    by_cases h2:j=o
    .subst h2
     rw[if_pos (by simp),Nat.sub_self,Array.getElem?_setIfInBounds_self_of_lt (by omega),List.getElem?_cons_zero]
    .rw[if_neg (by simp;omega),Array.getElem?_setIfInBounds_ne (by omega)]
theorem A3n{g:Nat}{t:TypeId}(a:List V_):∀(w:W_)(o:Nat) (cs:Array V_),J0 w g t cs->J0 (w.setCells g o a) g t (A1b cs o a):=by
 induction a with
 | nil=>intro w o cs h;exact h
 | cons v r ih=>intro w o cs h;exact ih _ _ _ (h.set_ o v)
theorem A7c{g i:Nat}{t:TypeId}{cs:Array V_}(b:i≠g)(a:List V_):∀(w:W_)(o:Nat),J0 w i t cs->J0 (w.setCells g o a) i t cs:=by
 induction a with
 | nil=>intro w o h;exact h
 | cons v r ih=>intro w o h;exact ih _ _ (h.far (p:=⟨g,o,none⟩) b v)
theorem A9Q{B g:Nat}(c:B<=g)(b:List V_):∀(a w:W_)(o:Nat),Below B a w->Below B a (w.setCells g o b):=by
 induction b with
 | nil=>intro a w o h;exact h
 | cons v r ih=>intro a w o h;exact ih _ _ _ (h.setCell (p:=⟨g,o,none⟩) c v)
theorem A8L{B g:Nat}(b:B<=g)(w:W_)(o:Nat)(a:List V_):SK B g w (w.setCells g o a):=⟨A9Q b a _ _ _ br_,λi cs t c _ h=>A7c c a w o h⟩
theorem B1l:(prog.info? 97).map (λi=>(i.zero,i.size,i.bytes))=some (some (.agg #[.int .i64 0,.string ⟨#[]⟩,.slice none 0 0,.string ⟨#[]⟩]),4,64):=by kernel_rfl
theorem B6e:∀w,(zeroValue 97).run prog w=.ok (.agg #[.int .i64 0,.string ⟨#[]⟩,.slice none 0 0,.string ⟨#[]⟩]) w:=by intro w;kernel_rfl
def A0V:List V_:=[.int .i64 0,.string ⟨#[]⟩,.slice none 0 0,.string ⟨#[]⟩]
theorem A7L(w:W_)(g:TypeId)(b o c:Nat)(i:∀j,j<4->(w.cell? ⟨b,o+j,none⟩).isSome=true)(h:∀j,j<4->w.frozen? ⟨b,o+j,none⟩=false):
 (Builtin.clear_ #[45] g #[.slice (some ⟨b,o,none⟩) 1 c]).run prog w=.ok (.tuple #[]) (w.setCells b o A0V):=by
 have a:=run_storeCells_cells (P:=prog) b o A0V 0 w (by simpa[A0V] using i) (by simpa[A0V] using h) (by intro v f;simp[A0V] at f;rcases f with rfl | rfl | rfl | rfl <;> rfl);simp only[Nat.add_zero] at a;have d:(Builtin.zeroCells (Value.agg #[.int .i64 0,.string ⟨#[]⟩,.slice none 0 0,.string ⟨#[]⟩]).cells 1).toList=A0V:=by kernel_rfl
 simp[Builtin.clear_,run_underlying underlying45,B6e,d,a]
theorem B8t(l:List Mr):∀u∈l.flatMap C3,u.oneCell'=true:=by
 intro u b;obtain⟨q,_,a⟩:=List.mem_flatMap.1 b;simp only[C3,List.mem_cons,List.not_mem_nil,or_false] at a;rcases a with rfl|rfl|rfl|rfl <;> rfl
theorem B7D(l:List Mr)(k:Nat):(l.flatMap C3).drop (k*4)=(l.drop k).flatMap C3:=by
 induction l generalizing k with
 | nil=>simp
 | cons q r ih =>
   cases k with
   | zero=>simp
   | succ k =>
     rw[List.flatMap_cons,List.drop_append,List.drop_eq_nil_of_le (by simp[C3];omega),show(k+1)*4 - (C3 q).length=k*4 by simp[C3];omega,List.nil_append,ih,List.drop_succ_cons]
theorem B6a(B g cap k N:Nat)(f:List Mr)(o:Array V_)(w:W_)(Q:N=f.length)(hk:k<N)(R:B<=g)(z:J0 w g 97 o)(P:N<=cap)(ai:cap<=9223372036854775807)(A:o.size=cap*4)(s:o.toList.take (N*4)=f.flatMap C3):
 Calls prog 52 #[.slice (some ⟨g,0,none⟩) N cap,.int .i64 k,.int .i64 ((k:Int)+1)] w (λe w'=>e=.returned (.slice (some ⟨g,0,none⟩) (k+(N - (k+1))) cap)/\(∃c:Array V_,J0 w' g 97 c/\c.size=cap*4/\c.toList.take ((N - 1)*4)=(f.eraseIdx k).flatMap C3)/\SK B g w w'):=by
 obtain⟨i0,M,ad,J,ac⟩:=info_parts B1l;obtain⟨a,b⟩:∃a,a=(f.drop (k+1)).flatMap C3:=⟨_,rfl⟩
 have n:a.length=(N - (k+1))*4:=by rw[b,B0U,List.length_drop,Q]
 have d:∀j,j<N*4->w.cell? ⟨g,j,none⟩=(f.flatMap C3)[j]?:=λj E=>by
  rw[z.cell,←s,List.getElem?_take,if_pos E];simp
 have m:∀t u,a[t]?=some u->w.cell? ⟨g,(k+1)*4+t,none⟩=some u:=λt u y=>by
  have ht:=(List.getElem?_eq_some_iff.1 y).1;rw[d _ (by omega),←y,b,←B7D,List.getElem?_drop]
 obtain⟨G,hA,C⟩:∃G:Addr,(if cap=k+1 then some (⟨g,0,none⟩:Addr) else some ⟨g,(k+1)*4,none⟩)=some G/\Hid (∀t u,a[t]?=some u->w.drew.cell? (G.add t)=some u):=by
  by_cases h:cap=k+1
  .refine⟨⟨g,0,none⟩,by simp[h],hid λt u y=>?_⟩
   have h0:a.length=0:=by rw[n];omega
   rw[List.length_eq_zero_iff.1 h0] at y;simp at y
  .refine⟨⟨g,(k+1)*4,none⟩,by simp[h],hid λt u y=>?_⟩
   rw[Z5];exact m t u y
 have Y:Hid (a.length=(N - (k+1))*4):=hid n;have X:Hid (∀u∈a,u.oneCell'=true):=hid (by rw[b];exact B8t _)
 have V:Hid (∀t,t<a.length->(w.drew.cell? ⟨g,0+k*4+t,none⟩).isSome=true/\w.drew.frozen? ⟨g,0+k*4+t,none⟩=false):=hid λt ht=>by
  refine⟨?_,z.frozen _⟩;show(w.cell? _).isSome=true;rw[z.cell,Array.getElem?_eq_getElem (by omega)]
  rfl
 obtain⟨p,r⟩:∃p,p=w.drew.setCells g (0+k*4) a:=⟨_,rfl⟩
 have q:J0 p g 97 (A1b o (0+k*4) a):=by rw[r];exact A3n a _ _ _ z
 have D:SK B g w p:=by rw[r];exact(SK.of_below (by have:=z.lt;omega) (br_.drew)).trans (A8L R _ _ _)
 have i:(A1b o (0+k*4) a).size=cap*4:=by rw[A4S,A]
 have T:N - (k+(N - (k+1)))=1:=by omega
 have e2:k+(N - (k+1))=N - 1:=by omega
 have ah:∀H,(Builtin.clear_ #[45] H #[.slice (some ⟨g,(k+(N - (k+1)))*4,none⟩) (N - (k+(N - (k+1)))) (cap - (k+(N - (k+1))))]).run prog p=.ok (.tuple #[]) (p.setCells g ((k+(N - (k+1)))*4) A0V):=λH=>by
  rw[T];exact A7L p H g _ _ (λj E=>by rw[q.cell,Array.getElem?_eq_getElem (by rw[i];omega)];rfl) (λj _=>q.frozen _)
 have F:Hid ((∃c:Array V_,J0 (p.setCells g ((k+(N - (k+1)))*4) A0V) g 97 c/\c.size=cap*4/\c.toList.take ((N - 1)*4)=(f.eraseIdx k).flatMap C3)/\SK B g w (p.setCells g ((k+(N - (k+1)))*4) A0V)):=hid (by
  refine⟨⟨_,A3n A0V _ _ _ q,by rw[A4S,i],?_⟩,D.trans (A8L R _ _ _)⟩;have O:f.eraseIdx k=f.take k++f.drop (k+1):=List.eraseIdx_eq_take_drop_succ ..;have L:(f.take k).length=k:=by rw[List.length_take];omega
  have l:((f.take k).flatMap C3).length=k*4:=by rw[B0U,L]
  refine List.ext_getElem? λj=>?_
  rw[O,List.flatMap_append,←b,List.getElem?_take];by_cases E:j<(N - 1)*4
  .rw[if_pos E,Array.getElem?_toList,A49 _ _ _ _ (by rw[i];simp[A0V];omega),if_neg (by omega),A49 _ _ _ _ (by rw[A,n];omega),Nat.zero_add]
   by_cases hjk:j<k*4
   .rw[if_neg (by omega),List.getElem?_append_left (by rw[l];exact hjk)]
    have S:=d j (by omega);rw[z.cell] at S;rw[S];have h2:f.flatMap C3=(f.take k).flatMap C3++(f.drop k).flatMap C3:=by rw[←List.flatMap_append,List.take_append_drop]
    rw[h2,List.getElem?_append_left (by rw[l];exact hjk)]
   .rw[if_pos (by omega),List.getElem?_append_right (by rw[l];omega),l]
  .rw[if_neg E]
   symm
   rw[List.getElem?_eq_none_iff,List.length_append,l,n];omega)
 have hW:Hid (p=w.drew.setCells g (0+k*4) a):=hid r;have ag:k<=cap:=by omega
 have af:k+1<=cap:=by omega
 have i1:(k:Int)<=k+1:=by omega
 have i2:(k:Int)+1<=(N:Int):=by omega
 have i3:(N:Int)<=cap:=by omega
 have i4:((k:Int)==(k:Int)+1)=false:=by rw[beq_eq_false_iff_ne];omega
 have i5:(0:Int)<=k:=by omega
 have i6:(k:Int)<=cap:=by omega
 have i7:(0:Int)<=k+1:=by omega
 have i8:((k+(N - (k+1)):Nat):Int)<=(N:Int):=by omega
 have i9:¬cap=k+(N - (k+1)):=by omega
 have aa:(k:Int)+((N - (k+1):Nat):Int)<=(N:Int):=by omega
 have Z:(0:Int)<=k+((N - (k+1):Nat):Int):=by omega
 clear r q D i d m n b s A z Q T e2;go_enter func52,ntmps52;go_wp2_with fail
 go_region_law (refine step_append_room rfl (.tmp 22) (.tmp 25) 45 rfl 97 i0 4 underlying45 M J g 0 k cap (by simp[Act.eval,Act.put]) G (N - (k+1)) (cap - (k+1)) a (by simp[Act.eval,Act.put]) Y.out C.out X.out (by omega) V.out ?_;rw[←hW.out])
 go_wp2;go_ret;exact⟨rfl,F.out⟩
theorem A0e{m:SS}{x:Int}{k:Nat}(h:m.place x=some k):k<m.ms.length:=by
 unfold SS.place at h;rw[List.findIdx?_eq_some_iff_getElem] at h;exact h.1
def A9Z(a:V_)(B b:Nat)(m:SS)(w:W_)(e:Ending)(w':W_):Prop:=e=.returned a/\∃(c:List Mr)(A:V_),M1 B b m c A w'/\SK B b w w'
theorem SK.row{B b g:Nat}{w w':W_}{a:Array V_}(f:J0 w g 97 a)(h:SK B g w w'):SK B b w w' :=
 ⟨h.bel,λi cs t j d c=>h.keep i cs t (λe=>by
   subst e;have h3':w.heap[i]?=some (.cells cs t (0,0)):=c;have hg':w.heap[i]?=some (.cells a 97 (0,0)):=f;rw[h3'] at hg';injection hg' with hg'
   injection hg' with _ hg' _
   exact d hg') d c⟩
theorem B09(B b:Nat)(m:SS)(f:List Mr)(A:V_)(x:Int)(w:W_)(h:M1 B b m f A w):
 Calls prog 24 #[.pointer (some ⟨b,0,none⟩),.int .i64 x] w (A9Z (m7 (m.removed x)) B b (m.remove x) w):=by
 have n:=hid (B96 B b m f A x w h);cases hp:m.place x with
 | none =>
   have i:m.removed x=4:=by unfold SS.removed;rw[hp]
   have j:m.remove x=m:=by unfold SS.remove;rw[hp]
   rw[i,j,L8 (by decide)];rw[hp] at n;have H:=hid h;unfold A9Z;clear h hp i j;go_enter func24,ntmps24;go_wp2_with fail;refine n.out.mono ?_;rintro e V⟨rfl,a⟩;have s:=hid (H.out.below a);have HK:=hid (SK.of_below (b:=b) H.out.hBw a);clear a;go_wp2_with fail;go_ret;exact⟨rfl,f,A,s.out,HK.out⟩
 | some k =>
   have C:k<f.length:=by have:=A0e hp;rw[h.ms,List.length_map] at this;exact this
   have i:m.removed x=0:=by unfold SS.removed;rw[hp]
   have j:m.remove x={ m with ms:=m.ms.eraseIdx k }:=by unfold SS.remove;rw[hp]
   rw[i,j5];rw[hp] at n
   obtain⟨g,cap,d,rfl,R,c,O,Y,M,l⟩:∃g cap d,A=.slice (some ⟨g,0,none⟩) f.length cap/\B<=g/\w.heap[g]?=some (.cells d 97 (0,0))/\f.length<=cap/\cap<=maxLen/\d.size=cap*4/\d.toList.take (f.length*4)=f.flatMap C3:=by
    rcases h.own.2 with ⟨_,hz⟩|⟨g,cap,d,hv,r⟩
    .omega
    .exact⟨g,cap,d,hv,r⟩
   unfold maxLen at Y;obtain⟨N,Q⟩:∃N,N=f.length:=⟨_,rfl⟩
   rw[←Q] at C O l;have HD:=hid λW (hb:Below w.heap.size w W)=>B6a B g cap k N f d W Q C R ((show J0 w g 97 d from c).kept hb) O (by omega) M l
   have HG:Hid (J0 w g 97 d):=hid c;have t:(m.remove x).ok:=h.ok.remove x;have aa:=hid t;have T:=hid j;have H:=hid h;have HN:=hid Q;have c0:w.cell? ⟨b,0,none⟩=some (.slice (some ⟨g,0,none⟩) N cap):=by rw[Q];exact h.blk.cell 0
   have e2:k+(N - (k+1))<=cap:=by omega
   have L:g≠b:=λe=>by
    subst e;have h1:w.heap[g]?=_:=h.blk;rw[h1] at c;injection c with c
    injection c with _ c _
    exact absurd c (by decide)
   have d0:(k:Int)<0↔False:=by simp
   have ao:decide ((k:Int)<0)=false:=by simp
   unfold A9Z;clear h hp i j t c M l Q d0;go_enter func24,ntmps24;go_wp2_with fail;refine n.out.mono ?_;rintro e V⟨rfl,a⟩;have c1:V.cell? ⟨b,0,none⟩=some (.slice (some ⟨g,0,none⟩) N cap):=(a.cell (p:=⟨b,0,none⟩) H.out.lt).trans c0;have ae:=hid (HD.out V a);have s:=hid (H.out.below a);have ad:=hid (HG.out.kept a);have ac:=hid (SK.of_below (b:=b) H.out.hBw a);have y:A4f (some k)=(k:Int):=rfl;rw[y];clear a c0 HD n y;go_wp2_with fail;refine ae.out.mono ?_;rintro e F⟨rfl,⟨z,P,J,G⟩,E⟩;have ag:Hid (J0 F g 97 z):=hid P;have S:=hid (And.intro J G);have ab:=hid E;have o:J0 F b 47 _:=E.keep b _ _ (λe=>L e.symm) (by decide) s.out.blk;have z0:F.frozen? ⟨b,0,none⟩=false:=o.frozen 0;have q0:F.cell? ⟨b,0,none⟩=_:=o.cell 0;have af:=hid o;clear P J G E o;go_wp2_with fail;go_ret;have eN:k+(N - (k+1))=(f.eraseIdx k).length:=by rw[List.length_eraseIdx,if_pos (by rw[←HN.out];exact C),←HN.out];omega
   have Z:=(ab.out.row (b:=b) ad.out)
   have D:=Z.trans (SK.set s.out.hB F 0 (.slice (some ⟨g,0,none⟩) (k+(N - (k+1))) cap));rw[eN] at D ⊢;refine⟨rfl,f.eraseIdx k,.slice (some ⟨g,0,none⟩) (f.eraseIdx k).length cap,⟨s.out.hB,?_,?_,?_,?_,aa.out,?_⟩,ac.out.trans D⟩
   .rw[T.out]
    show m.ms.eraseIdx k=_;rw[s.out.ms,List.eraseIdx_eq_take_drop_succ,List.eraseIdx_eq_take_drop_succ,List.map_append,List.map_take,List.map_drop]
   .rw[T.out]
    have:=af.out.set_ 0 (.slice (some ⟨g,0,none⟩) (f.eraseIdx k).length cap)
    simpa using this
   .have hl:(f.eraseIdx k).length=N - 1:=by rw[←eN];omega
    refine⟨by rw[B0U],.inr ⟨g,cap,z,rfl,R,ag.out.far (p:=⟨b,0,none⟩) L _,by rw[hl];omega,by unfold maxLen;omega,S.out.1,by rw[hl];exact S.out.2⟩⟩
   .intro q hq
    have X:=s.out.mem q (List.mem_of_mem_eraseIdx hq);exact⟨A35 X.1 D (by decide) (C2 X.1 s.out.blk (by decide)),X.2⟩
   .rw[SS.last_remove];exact s.out.lastb
def B10(s:B_)(w:W_)(e:Ending)(w':W_):Prop:=Below w.heap.size w w' /\
 ((∃t g cap,Q3 s=(0,0,some t)/\e=.returned (.tuple #[.slice (some ⟨g,0,none⟩) (A0 t).length cap,.int .i64 0,.nilIface])/\P6 w' w.heap.size (.slice (some ⟨g,0,none⟩) (A0 t).length cap) (A0 t)) \/
  (∃(c:Int)(k:Nat),Q3 s=(c,k,none)/\c≠0/\e=.returned (.tuple #[.slice none 0 0,.int .i64 k,.iface 81 (.int .i64 c)])))
theorem B79{ev:V_}(s:B_)(w:W_)(h:A2K ev w):Calls prog 47 #[.string s] w (B10 s w):=by
 refine(B8A s w h).mono ?_;rintro e w'⟨c,⟨f,a⟩|⟨f,t,a,d,b⟩|⟨f,t,g,cap,a,d,b,i⟩|⟨f,k,a,d⟩⟩
 .exact⟨c,.inr ⟨3,0,by unfold Q3;rw[if_pos f],by decide,a⟩⟩
 .refine⟨c,.inr ⟨3,0,?_,by decide,b⟩⟩
  unfold Q3;rw[if_neg (by omega),a];dsimp only;rw[if_pos rfl,if_neg (by omega)]
 .refine⟨c,.inl ⟨t,g,cap,?_,b,i⟩⟩
  unfold Q3;rw[if_neg (by omega),a];dsimp only;rw[if_pos rfl,if_pos d]
 .refine⟨c,.inr ⟨5,k,?_,by decide,d⟩⟩
  unfold Q3;rw[if_neg (by omega)];rcases a with a|⟨t,a,b⟩
  .rw[a]
  .rw[a]
   dsimp only;rw[if_neg b]
theorem M1.more{B b:Nat}{m m':SS}{i:List Mr}{A d:V_}{q:Mr}{W c:W_}(h:M1 B b m i A W)
 (hown:c.ownsRow B 97 4 d (i.length+1) (i.flatMap C3++C3 q)) (hg:W.grownBy c A.ownBlock)
 (hms:m'.ms=m.ms++[q.1]) (hlast:m'.last=m.last) (hon:m'.on=m.on) (htr:m'.tried=m.tried) (hok:m'.ok) (hq:P6 W B (A3O q) (A0 q.1.t)/\q.2.2.data.toList=(S0 q.1.t).1):
 M1 B b m' (i++[q]) d (c.setCell ⟨b,0,none⟩ d)/\SK B b W (c.setCell ⟨b,0,none⟩ d):=by
 have n:SK B b W c:=SK.grown h.hBw h.own hg;have g:J0 c b 47 _:=(hg.block b h.lt (λe=>C2 h.own h.blk (by decide) e.symm)).trans h.blk;have f:SK B b W (c.setCell ⟨b,0,none⟩ d):=n.trans (SK.set h.hB c 0 d);have j:d.ownBlock≠some b:=C2 hown g (by decide);refine⟨⟨h.hB,by rw[hms,h.ms,List.map_append];rfl,?_,?_,?_,hok,by rw[hlast];exact h.lastb⟩,f⟩
 .have:=g.set_ 0 d
  rw[hlast,hon,htr]
  simpa using this
 .rw[List.length_append,List.flatMap_append]
  have:=hown.kept (R3 c b 0 d) (.inr j)
  simpa using this
 .intro l a
  rcases List.mem_append.1 a with a|a
  .have k:=h.mem l a
   exact⟨A35 k.1 f (by decide) (C2 k.1 h.blk (by decide)),k.2⟩
  .rw[List.mem_singleton.1 a]
   exact⟨A35 hq.1 f (by decide) (C2 hq.1 h.blk (by decide)),hq.2⟩
def C0A(r:Nat×Nat×Int):V_:=.tuple #[.int .i64 (r.1:Int),.int .i64 (r.2.1:Int),m7 r.2.2]
theorem B8J{ev:V_}(B b:Nat)(m:SS)(f:List Mr)(A:V_)(s:B_)(w:W_)(h:M1 B b m f A w)(z:A2K ev w)(hl:m.last<1000000):
 Calls prog 22 #[.pointer (some ⟨b,0,none⟩),.string s] w (A9Z (C0A (m.added s)) B b (m.add s) w):=by
 obtain⟨i0,aC,aA,az,ay⟩:=info_parts B1l;have o:=hid (B79 s w z);unfold B10 at o;have H:=hid h;obtain⟨P,cap,rfl,bg,bf,_⟩:=h.open_;have a_:=h.len;have hlt:=h.lt;unfold A9Z C0A;have c0:w.cell? ⟨b,0,none⟩=some (.slice P f.length cap):=h.blk.cell 0;have c1:w.cell? ⟨b,1,none⟩=some (.int .i64 m.last):=h.blk.cell 1;cases hp:(Q3 s).2.2 with
 | none =>
   have R:(Q3 s).1≠0:=λe=>by obtain⟨t,ht⟩:=A4U.1 e;rw[ht] at hp;cases hp
   have L:m.added s=(0,(Q3 s).2.1,(Q3 s).1):=by unfold SS.added;rw[if_pos R]
   have E:m.add s=m:=by unfold SS.add;rw[hp]
   rw[L,E];dsimp only;rw[L8 R];have HP:=hid hp;clear h z hp L E R c0 c1;go_enter func22,ntmps22;go_wp2_with fail;refine o.out.mono ?_;rintro e w1⟨d,⟨t,g,l,a,_,_⟩|⟨c,k,a,hc,rfl⟩⟩
   .have:=HP.out;rw[a] at this;cases this
   .have HQ:=hid a
    have O:=hid (H.out.below d);have HK:=hid (SK.of_below (b:=b) H.out.hBw d);clear d a hc;go_wp2_with fail;go_ret3;exact⟨by rw[HQ.out];rfl,f,_,O.out,HK.out⟩
 | some t =>
   obtain⟨_,_,aF,af,y⟩:=T5 hp;have h0:¬(Q3 s).1≠0:=by rw[y];simp
   have T:=hid y;by_cases h12:f.length=12
   .have i:¬m.ms.length<12:=by rw[h.ms,List.length_map];omega
    have L:m.added s=(0,0,3):=by unfold SS.added;rw[if_neg h0,if_neg i]
    have E:m.add s=m:=by unfold SS.add;rw[hp];dsimp only;rw[if_neg i]
    rw[L,E];dsimp only;rw[L8 (by decide)];have aG:((f.length:Int)==12)=true:=by rw[h12];rfl
    clear h z hp L E h0 i y h12;go_enter func22,ntmps22;go_wp2_with fail;refine o.out.mono ?_;rintro e w1⟨d,⟨t',g,l,a,rfl,_⟩|⟨c,k,a,hc,rfl⟩⟩
    .have O:=hid (H.out.below d)
     have HK:=hid (SK.of_below (b:=b) H.out.hBw d);have c0':w1.cell? ⟨b,0,none⟩=some (.slice P f.length cap):=O.out.blk.cell 0;clear d a c0 c1;go_wp2_with fail;go_ret3;exact⟨rfl,f,_,O.out,HK.out⟩
    .rw[T.out] at a;cases a
   .have i:m.ms.length<12:=by rw[h.ms,List.length_map];omega
    have L:m.added s=(m.last+1,0,0):=by unfold SS.added;rw[if_neg h0,if_pos i]
    have E:m.add s={ m with ms:=m.ms++[⟨m.last+1,s,t⟩],last:=m.last+1 }:=by unfold SS.add;rw[hp];dsimp only;rw[if_pos i]
    have J:(m.add s).ok:=h.ok.add s;have aL:=hid J;have HS:=hid E;rw[L];dsimp only;rw[j5];have aG:((f.length:Int)==12)=false:=by rw[beq_eq_false_iff_ne];omega
    have X:=hid λ(v:V_)(W:W_) (hr:q7 W v (A0 t))=>B31 (A0 t) t rfl af v W aF hr
    unfold A9j at X;have bd:=h.lastb;have be:IntKind.i64.wrap ((m.last:Int)+1)=(m.last:Int)+1:=by rw[IntKind.wrap_i64];omega
    have ar:=hid h.hB;obtain⟨N,hN⟩:∃N,N=(A0 t).length:=⟨_,rfl⟩
    have HN:=hid hN;have z1:=h.blk.frozen 1;clear h z hp L E h0 i y h12 J hN;go_enter func22,ntmps22;go_wp2_with fail;refine o.out.mono ?_;rintro e w1⟨d,⟨t',g,l,a,rfl,ag⟩|⟨c,k,a,hc,rfl⟩⟩
    .have ht:t'=t:=by rw[T.out] at a;cases a;rfl
     subst ht;have O:=hid (H.out.below d);have aU:=hid (SK.of_below (b:=b) H.out.hBw d);have c0':w1.cell? ⟨b,0,none⟩=some (.slice P f.length cap):=O.out.blk.cell 0;have V:=hid (ag.base H.out.hBw);rw[←HN.out] at V ⊢;have M:=hid (X.out _ w1 (Rd.of_own V.out));clear d a c0 c1 ag o X;go_wp2_with fail;refine M.out.mono ?_;rintro e r⟨D,rfl,ah,C⟩;have p:=hid (O.out.below C);have aT:=hid (aU.out.trans (SK.of_below (b:=b) O.out.hBw C));have c0:r.cell? ⟨b,0,none⟩=some (.slice P f.length cap):=p.out.blk.cell 0;have c1:r.cell? ⟨b,1,none⟩=some (.int .i64 m.last):=p.out.blk.cell 1;have z1:r.frozen? ⟨b,1,none⟩=false:=p.out.blk.frozen 1;have aq:=hid (V.out.below C);have aP:=hid ah;have aj:=p.out.lt;clear C ah c0' M;go_wp2_with fail
     have H3:Hid (M1 B b { m with last:=m.last+1 } f (.slice P f.length cap) (r.setCell ⟨b,1,none⟩ (.int .i64 ((m.last:Int)+1)))):=hid (by
      have:=p.out.put { m with last:=m.last+1 } rfl ⟨p.out.ok.len,p.out.ok.up,λx hx=>⟨(p.out.ok.pos x hx).1,Nat.le_succ_of_le (p.out.ok.pos x hx).2⟩,p.out.ok.read⟩ (by show m.last+1<=1000000;omega) 1 (.int .i64 ((m.last:Int)+1)) (by simp);exact this)
     have aS:Hid (SK B b w (r.setCell ⟨b,1,none⟩ (.int .i64 ((m.last:Int)+1)))):=hid (aT.out.trans (SK.set ar.out r 1 _));have aN:Hid (P6 (r.setCell ⟨b,1,none⟩ (.int .i64 ((m.last:Int)+1))) B (.slice (some ⟨g,0,none⟩) N l) (A0 t')):=hid (A35 aq.out (SK.set ar.out r 1 _) (by decide) (C2 aq.out p.out.blk (by decide)));generalize r.setCell ⟨b,1,none⟩ (.int .i64 ((m.last:Int)+1))=w3 at *;have e0:w3.cell? ⟨b,0,none⟩=some (.slice P f.length cap):=H3.out.blk.cell 0;have e1:w3.cell? ⟨b,1,none⟩=some (.int .i64 ((m.last:Int)+1)):=by have:=H3.out.blk.cell 1;simpa using this
     have aZ:=H3.out.lt;have ak:=H3.out.hBw
     have n:∀(j:Nat)(u:V_),([.int .i64 ((m.last:Int)+1),.string s,.slice (some ⟨g,0,none⟩) N l,.string D]:List V_)[j]?=some u ->
      (w3.alloc (.cells #[.int .i64 ((m.last:Int)+1),.string s,.slice (some ⟨g,0,none⟩) N l,.string D] 97)).drew.cell? ((⟨w3.heap.size,0,none⟩:Addr).add j)=some u:=by
      intro j u hu;rw[Z5,Nat.zero_add];have:=((J0.new w3 97 #[.int .i64 ((m.last:Int)+1),.string s,.slice (some ⟨g,0,none⟩) N l,.string D]).drew).cell j;rw[this]
      simpa using hu
     have G:∀u∈([.int .i64 ((m.last:Int)+1),.string s,.slice (some ⟨g,0,none⟩) N l,.string D]:List V_),u.oneCell'=true:=by
      intro u hu;simp only[List.mem_cons,List.not_mem_nil,or_false] at hu;rcases hu with rfl|rfl|rfl|rfl <;> rfl
     have aO:=hid n;have aK:=hid G;have Y:=hid (((Below.refl w3.heap.size w3).alloc (lr_ _) (.cells #[.int .i64 ((m.last:Int)+1),.string s,.slice (some ⟨g,0,none⟩) N l,.string D] 97)).drew);have Z:=hid (H3.out.below Y.out);have aM:=hid (aN.out.below Y.out);have aR:=hid (aS.out.trans (SK.of_below ak Y.out));clear n G c0 c1 z1 aj
     go_region_law (refine step_append_lies _ rfl (.tmp 45) (.tmp 55) 45 rfl B 97 i0 _ 4 64 underlying45 aC aA az ay rfl (by decide) (.slice P f.length cap) f.length (f.flatMap C3) ?a1 Z.out.own ⟨w3.heap.size,0,none⟩ 1 1 [.int .i64 ((m.last:Int)+1),.string s,.slice (some ⟨g,0,none⟩) N l,.string D] ?a2 rfl aO.out aK.out ?a4 ?a5 ?a6 ?a7 _ rfl ?_;(case a1=>simp[Act.eval,Act.put]);(case a2=>simp[Act.eval,Act.put]);(case a4=>omega);(case a5=>unfold maxLen;omega);(case a6=>omega);(case a7=>simp;omega);intro g' al w5 F hg hat ai;have S:J0 w5 b 47 _:=(hg.block b Z.out.lt (λe=>C2 Z.out.own Z.out.blk (by decide) e.symm)).trans Z.out.blk;have o1:w5.cell? ⟨b,0,none⟩=some (.slice P f.length cap):=S.cell 0;have f1:w5.frozen? ⟨b,0,none⟩=false:=S.frozen 0;have aJ:=hid F;have aW:=hid hg;clear S F hg hat ai)
     all_goals (
      obtain⟨q,a⟩:∃q:Mr,q=(⟨m.last+1,s,t'⟩,(g,l),D):=⟨_,rfl⟩
      have ae:C3 q=[.int .i64 ((m.last:Int)+1),.string s,.slice (some ⟨g,0,none⟩) N l,.string D]:=by
       rw[a,HN.out];simp[C3,A3O]
      have ad:A3O q=.slice (some ⟨g,0,none⟩) N l:=by rw[a,HN.out];rfl
      obtain⟨Q,ac⟩:=Z.out.more (m':=m.add s) (q:=q) (by rw[ae];exact aJ.out) aW.out (by rw[HS.out,a]) (by rw[HS.out]) (by rw[HS.out]) (by rw[HS.out]) aL.out ⟨by rw[ad,a];exact aM.out,by rw[a];exact aP.out⟩
      have y1:(w5.setCell ⟨b,0,none⟩ (.slice (some ⟨g',0,none⟩) (f.length+1) al)).cell? ⟨b,1,none⟩=some (.int .i64 ((m.last:Int)+1)):=by
       have:=Q.blk.cell 1;rw[HS.out] at this
       simpa using this
      have aI:=hid Q;have aH:=hid (aR.out.trans ac);clear Q ac ae ad a;generalize (w5.setCell ⟨b,0,none⟩ (.slice (some ⟨g',0,none⟩) (f.length+1) al))=w6 at *;go_wp2;go_ret3;exact⟨rfl,_,_,aI.out,aH.out⟩)
    .rw[T.out] at a;cases a
